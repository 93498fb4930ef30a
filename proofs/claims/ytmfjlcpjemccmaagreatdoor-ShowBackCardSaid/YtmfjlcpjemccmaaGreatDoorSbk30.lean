/- The program's Name of trees: walked. Each lemma states its own conditions. -/
import Derived.Test.YtmfjlcpjemccmaaGreatDoorSbk29
import Derived.Test.YtmfjlcpjemccmaaGreatDoorSbk22
namespace Go.Proofs.YtmfjlcpjemccmaaGreatDoor
set_option maxRecDepth 20000
set_option maxHeartbeats 4000000
open Go.RowKit
theorem b8e(s:ByteArray):Lib.containsS (c5v.take 10) s=b3w s:=by
 rw[show c5v.take 10=c5v from rfl,Bool.eq_iff_iff,Lib.containsS_iff]
 constructor
 ·intro h;exact List.any_eq_true.2 ⟨s,h,decide_eq_true rfl⟩
 ·intro h;obtain⟨x,hx,e⟩:=List.any_eq_true.1 h;exact of_decide_eq_true e▸hx
theorem c0e(s:ByteArray)(w:World)(hm:s.size≤maxLen):Calls Tryz.prog 153 #[.string s] w fun r w'=>r=.returned (.bool (b1T 1 s))∧Bel w w':=by
 have HT:=Hi_ (fun W=>c6e 1 s W hm);clear hm;generalize b1T 1 s=a at *;go_enter Tryz.func153,Tryz.ntmps153;go_wp2_with fail
 refine(HT.out _).mono ?_;rintro r w1 ⟨rfl,hb⟩;go_wp2;go_ret;exact⟨rfl,hb⟩
theorem c4T(w:World):Calls Tryz.prog 155 #[] w fun r w'=>r=.returned (.slice (some ⟨w.heap.size,0,none⟩) 10 10)∧w'=w.alloc (.cells (c5v.map Value.string).toArray 9):=by
 go_enter Tryz.func155,Tryz.ntmps155;go_wp2;go_ret;exact⟨rfl,rfl⟩
theorem b4e(s:ByteArray)(w:World)(hm:s.size≤maxLen):Calls Tryz.prog 104 #[.string s] w fun r w'=>r=.returned (.bool (b0H s))∧Bel w w':=by
 have HT:=Hi_ (fun W=>c0e s W hm);have HW:=Hi_ (fun W=>c4T W)
 have HC:Hid (∀(W:World) (b:Nat),Blk W b 9 (c5v.map Value.string).toArray→Calls Tryz.prog 154 #[.slice (some ⟨b,0,none⟩) 10 10,.string s] W fun e w'=>e=.returned (.bool (b3w s))∧w'=W):=Hi_ fun W b hb=>by
  rw[←b8e];refine Tryz.slices_Contains_string b 0 10 10 c5v s W (by decide) (by decide) fun j hj=>?_;rw[Nat.zero_add];refine hb.cell ?_;rw[List.getElem?_toArray,List.getElem?_map,List.getElem?_eq_getElem hj,List.getD_eq_getElem?_getD,List.getElem?_eq_getElem hj];rfl
 have HN:Hid (b0H s=(b1T 1 s && !b3w s)):=Hi_ rfl;clear hm;generalize b0H s=T at *;generalize b3w s=b at *;generalize b1T 1 s=a at *;cases a with
 | false =>
  go_enter Tryz.func104,Tryz.ntmps104;go_wp2_with fail
  refine(HT.out _).mono ?_;rintro r w1 ⟨rfl,hb⟩;have HB:=Hi_ hb;clear hb;go_wp2;go_ret;exact⟨by rw[HN.out];rfl,HB.out⟩
 | true =>
  go_enter Tryz.func104,Tryz.ntmps104;go_wp2_with fail
  refine(HT.out _).mono ?_;rintro r w1 ⟨rfl,hb⟩;have HB:=Hi_ hb;clear hb;go_wp2_with fail
  refine(HW.out _).mono ?_;rintro r w2 ⟨rfl,rfl⟩;replace HB:=Hi_ (HB.out.al (.cells (c5v.map Value.string).toArray 9));have HK:=Hi_ (Blk.new w1 9 (c5v.map Value.string).toArray);generalize w1.alloc _=w2 at *;generalize w1.heap.size=g at *;go_wp2_with fail
  refine(HC.out _ _ HK.out).mono ?_;rintro r w3 ⟨rfl,rfl⟩;go_wp2;go_ret;exact⟨by rw[HN.out,Bool.true_and];rfl,HB.out⟩
theorem c7B(s:ByteArray):s.toList.isEmpty=decide (s=emp):=by
 rw[←b8H,show emp.toList=[] by rw[b2a];rfl];cases s.toList<;>rfl
def b0y(s:ByteArray)(m:Bool):Bool:=if m then b0H s else decide (s=emp)
theorem b7M(s:ByteArray)(m:Bool)(w:World)(hm:s.size≤maxLen):Calls Tryz.prog 100 #[.string s,.bool m] w fun r w'=>r=.returned (.bool (b0y s m))∧Bel w w':=by
 have HT:=Hi_ (fun W=>b4e s W hm);clear hm;cases m with
 | false =>
  have HN:Hid (b0y s false=decide (s=emp)):=Hi_ rfl;have d0:=c7B s;generalize decide (s=emp)=c at *;have HRF:=Hi_ (Bel.rfl_ w);go_enter Tryz.func100,Tryz.ntmps100;go_wp2;go_ret;exact⟨by rw[HN.out,←d0];rfl,HRF.out⟩
 | true =>
  have HN:Hid (b0y s true=b0H s):=Hi_ rfl;generalize b0H s=c at *;go_enter Tryz.func100,Tryz.ntmps100;go_wp2_with fail
  refine(HT.out _).mono ?_;rintro r w1 ⟨rfl,hb⟩;have HB:=Hi_ hb;clear hb;cases c with
  | true =>
   go_wp2;go_ret;exact⟨by rw[HN.out];rfl,HB.out⟩
  | false =>
   go_wp2;go_ret;exact⟨by rw[HN.out];rfl,HB.out⟩
theorem b4g{α:Type}{p:α→Bool}{l:List α}{k:Nat}{x:α}(hx:l[k]? = some x):(l.drop k).any p=(p x || (l.drop (k+1)).any p):=by
 obtain⟨hl,rfl⟩:=List.getElem?_eq_some_iff.1 hx;rw[List.drop_eq_getElem_cons hl,List.any_cons]
theorem b9z(p:TE→Bool)(l:List TE)(v:Value)(w:World)(h:Sl teR w v l)
  (IH:∀x∈l,∀(cs:List Value) (W:World),teR.R W cs x→Calls Tryz.prog 98 #[.agg cs.toArray] W fun r w'=>r=.returned (.bool (p x))∧Bel W w') :
  Calls Tryz.prog 188 #[v,.func (.func 98) #[] #[]] w fun r w'=>∃k:Int,r=.returned (.int .i64 k)∧decide (0≤k)=l.any p∧Bel w w':=by
 have HSL:=Hi_ h;have HI:=Hi_ IH;have HT:Hid ((l.drop 0).any p=l.any p):=Hi_ rfl;generalize l.any p=T at *;obtain⟨A,c,rfl,hc,hm,-⟩:=h;have hll:l.length≤9223372036854775807:=by have:=hm.1;simp only[maxLen] at this;omega
 have HRF:=Hi_ (Bel.rfl_ w);clear hm hc IH;go_enter Tryz.func188,Tryz.ntmps188;go_wp2;go_loopw [8] (fun i wr=>∃j:Nat,i=.int .i64 j∧j≤l.length∧Hid ((l.drop j).any p=T)∧Hid (Bel w wr)) (fun i _=>l.length-(intOf i).toNat)
 case atStart=>exact⟨0,rfl,Nat.zero_le _,HT,HRF⟩
 case round =>
  obtain⟨j,rfl,hj,HS,HB⟩:=hrel;obtain⟨WO,hWO⟩:∃W,W=wr:=⟨_,rfl⟩;subst hWO;clear HT HRF;by_cases hlt:j<l.length
  rotate_left
  ·have hdd:decide ((j:Int)<l.length)=false:=decide_eq_false (by omega);have HR:Hid (false=T):=Hi_ (by rw[←HS.out,List.drop_eq_nil_of_le (by omega)];rfl);go_wp2;go_ret;exact⟨-1,rfl,by rw[←HR.out];rfl,HB.out⟩
  have hdd:decide ((j:Int)<l.length)=true:=decide_eq_true (by omega);obtain⟨x,hx⟩:∃x,l[j]? = some x:=⟨_,List.getElem?_eq_getElem hlt⟩;obtain⟨b,o,rfl,hA⟩:=(HSL.out.keep HB.out).lies (by omega);obtain⟨cs,hcs,hca⟩:=hA j x hx;have HIX:=Hi_ (fun W (hb:Bel WO W)=>HI.out x (List.mem_of_getElem? hx) cs W (teR.keep hb hcs));have HD:Hid ((p x || (l.drop (j+1)).any p)=T):=Hi_ (by rw[←b4g hx];exact HS.out);have i0:(0:Int)≤j:=by omega
  have i1:(j:Int)<l.length:=by omega
  have HL:=Hi_ (teR.len hcs);have HCA:Hid (b0x WO b (o+j*5) cs):=Hi_ hca;clear hcs hca hx HS HI hA;go_upto_region 4 with fail;refine b0E ?_;try dsimp only[List.append]
  refine b0P (some 11) (.func (.func 98) #[] #[]) ?_;refine b0P (some 12) (.slice (some ⟨b,o,none⟩) l.length c) ?_;refine b0P (some 13) (.int .i64 j) ?_;refine b0R (some 14) (.pointer (some ⟨b,o+j*5,none⟩)) (by go_simp) ?_;refine b0R (some 15) _ (b0B 49 (.tmp 14) rfl b2R b (o+j*5) (by kernel_rfl) cs HCA.out HL.out (by kernel_rfl)) ?_;refine b0W (some 16) 98 #[.agg cs.toArray] (HIX.out _ (Bel.rfl_ _)) ?_;rintro r W3 ⟨rfl,hb⟩;replace HB:=Hi_ (HB.out.tr hb);clear hb;refine⟨_,rfl,?_⟩;generalize p x=sm at *;refine b0C ?_;try simp only[Act.put,lA,lB,lC]
  cases sm with
  | false =>
   have HD2:Hid ((l.drop (j+1)).any p=T):=Hi_ (by rw[←HD.out,Bool.false_or]);go_wp2;go_roundw
   case rel=>exact⟨j+1,by go_num,by omega,HD2,HB⟩
   case measure=>simp[intOf];omega
  | true =>
   have HD2:Hid (true=T):=Hi_ (by rw[←HD.out,Bool.true_or]);go_wp2;go_ret;exact⟨j,rfl,by rw[←HD2.out];exact decide_eq_true i0,HB.out⟩
theorem b7g(p:TE→Bool)(l:List TE)(v:Value)(w:World)(h:Sl teR w v l)
  (IH:∀x∈l,∀(cs:List Value) (W:World),teR.R W cs x→Calls Tryz.prog 98 #[.agg cs.toArray] W fun r w'=>r=.returned (.bool (p x))∧Bel W w') :
  Calls Tryz.prog 149 #[v,.func (.func 98) #[] #[]] w fun r w'=>r=.returned (.bool (l.any p))∧Bel w w':=by
 have HC:=Hi_ (b9z p l v w h IH);obtain⟨A,c,rfl,-⟩:=h;generalize l.any p=T at *;clear IH;go_enter Tryz.func149,Tryz.ntmps149;go_wp2_with fail
 refine HC.out.mono ?_;rintro r w1 ⟨k,rfl,hk,hb⟩;have hk2:decide (0≤k)=T:=hk;have HB:=Hi_ hb;clear hb HC hk;cases T with
 | true =>
  go_wp2;go_ret;exact⟨rfl,HB.out⟩
 | false =>
  go_wp2;go_ret;exact⟨rfl,HB.out⟩
theorem c1m(p:TE→Bool)(l:List TE)(v:Value)(w:World)(h:Sl teR w v l)
  (IH:∀x∈l,∀(cs:List Value) (W:World),teR.R W cs x→Calls Tryz.prog 190 #[.agg cs.toArray] W fun r w'=>r=.returned (.bool (p x))∧Bel W w') :
  Calls Tryz.prog 188 #[v,.func (.func 190) #[] #[]] w fun r w'=>∃k:Int,r=.returned (.int .i64 k)∧decide (0≤k)=l.any p∧Bel w w':=by
 have HSL:=Hi_ h;have HI:=Hi_ IH;have HT:Hid ((l.drop 0).any p=l.any p):=Hi_ rfl;generalize l.any p=T at *;obtain⟨A,c,rfl,hc,hm,-⟩:=h;have hll:l.length≤9223372036854775807:=by have:=hm.1;simp only[maxLen] at this;omega
 have HRF:=Hi_ (Bel.rfl_ w);clear hm hc IH;go_enter Tryz.func188,Tryz.ntmps188;go_wp2;go_loopw [8] (fun i wr=>∃j:Nat,i=.int .i64 j∧j≤l.length∧Hid ((l.drop j).any p=T)∧Hid (Bel w wr)) (fun i _=>l.length-(intOf i).toNat)
 case atStart=>exact⟨0,rfl,Nat.zero_le _,HT,HRF⟩
 case round =>
  obtain⟨j,rfl,hj,HS,HB⟩:=hrel;obtain⟨WO,hWO⟩:∃W,W=wr:=⟨_,rfl⟩;subst hWO;clear HT HRF;by_cases hlt:j<l.length
  rotate_left
  ·have hdd:decide ((j:Int)<l.length)=false:=decide_eq_false (by omega);have HR:Hid (false=T):=Hi_ (by rw[←HS.out,List.drop_eq_nil_of_le (by omega)];rfl);go_wp2;go_ret;exact⟨-1,rfl,by rw[←HR.out];rfl,HB.out⟩
  have hdd:decide ((j:Int)<l.length)=true:=decide_eq_true (by omega);obtain⟨x,hx⟩:∃x,l[j]? = some x:=⟨_,List.getElem?_eq_getElem hlt⟩;obtain⟨b,o,rfl,hA⟩:=(HSL.out.keep HB.out).lies (by omega);obtain⟨cs,hcs,hca⟩:=hA j x hx;have HIX:=Hi_ (fun W (hb:Bel WO W)=>HI.out x (List.mem_of_getElem? hx) cs W (teR.keep hb hcs));have HD:Hid ((p x || (l.drop (j+1)).any p)=T):=Hi_ (by rw[←b4g hx];exact HS.out);have i0:(0:Int)≤j:=by omega
  have i1:(j:Int)<l.length:=by omega
  have HL:=Hi_ (teR.len hcs);have HCA:Hid (b0x WO b (o+j*5) cs):=Hi_ hca;clear hcs hca hx HS HI hA;go_upto_region 4 with fail;refine b0E ?_;try dsimp only[List.append]
  refine b0P (some 11) (.func (.func 190) #[] #[]) ?_;refine b0P (some 12) (.slice (some ⟨b,o,none⟩) l.length c) ?_;refine b0P (some 13) (.int .i64 j) ?_;refine b0R (some 14) (.pointer (some ⟨b,o+j*5,none⟩)) (by go_simp) ?_;refine b0R (some 15) _ (b0B 49 (.tmp 14) rfl b2R b (o+j*5) (by kernel_rfl) cs HCA.out HL.out (by kernel_rfl)) ?_;refine b0W (some 16) 190 #[.agg cs.toArray] (HIX.out _ (Bel.rfl_ _)) ?_;rintro r W3 ⟨rfl,hb⟩;replace HB:=Hi_ (HB.out.tr hb);clear hb;refine⟨_,rfl,?_⟩;generalize p x=sm at *;refine b0C ?_;try simp only[Act.put,lA,lB,lC]
  cases sm with
  | false =>
   have HD2:Hid ((l.drop (j+1)).any p=T):=Hi_ (by rw[←HD.out,Bool.false_or]);go_wp2;go_roundw
   case rel=>exact⟨j+1,by go_num,by omega,HD2,HB⟩
   case measure=>simp[intOf];omega
  | true =>
   have HD2:Hid (true=T):=Hi_ (by rw[←HD.out,Bool.true_or]);go_wp2;go_ret;exact⟨j,rfl,by rw[←HD2.out];exact decide_eq_true i0,HB.out⟩
theorem b8c(p:TE→Bool)(l:List TE)(v:Value)(w:World)(h:Sl teR w v l)
  (IH:∀x∈l,∀(cs:List Value) (W:World),teR.R W cs x→Calls Tryz.prog 190 #[.agg cs.toArray] W fun r w'=>r=.returned (.bool (p x))∧Bel W w') :
  Calls Tryz.prog 149 #[v,.func (.func 190) #[] #[]] w fun r w'=>r=.returned (.bool (l.any p))∧Bel w w':=by
 have HC:=Hi_ (c1m p l v w h IH);obtain⟨A,c,rfl,-⟩:=h;generalize l.any p=T at *;clear IH;go_enter Tryz.func149,Tryz.ntmps149;go_wp2_with fail
 refine HC.out.mono ?_;rintro r w1 ⟨k,rfl,hk,hb⟩;have hk2:decide (0≤k)=T:=hk;have HB:=Hi_ hb;clear hb HC hk;cases T with
 | true =>
  go_wp2;go_ret;exact⟨rfl,HB.out⟩
 | false =>
  go_wp2;go_ret;exact⟨rfl,HB.out⟩
theorem c1k(p:TE→Bool)(l:List TE)(v:Value)(w:World)(h:Sl teR w v l)
  (IH:∀x∈l,∀(cs:List Value) (W:World),teR.R W cs x→Calls Tryz.prog 193 #[.agg cs.toArray] W fun r w'=>r=.returned (.bool (p x))∧Bel W w') :
  Calls Tryz.prog 188 #[v,.func (.func 193) #[] #[]] w fun r w'=>∃k:Int,r=.returned (.int .i64 k)∧decide (0≤k)=l.any p∧Bel w w':=by
 have HSL:=Hi_ h;have HI:=Hi_ IH;have HT:Hid ((l.drop 0).any p=l.any p):=Hi_ rfl;generalize l.any p=T at *;obtain⟨A,c,rfl,hc,hm,-⟩:=h;have hll:l.length≤9223372036854775807:=by have:=hm.1;simp only[maxLen] at this;omega
 have HRF:=Hi_ (Bel.rfl_ w);clear hm hc IH;go_enter Tryz.func188,Tryz.ntmps188;go_wp2;go_loopw [8] (fun i wr=>∃j:Nat,i=.int .i64 j∧j≤l.length∧Hid ((l.drop j).any p=T)∧Hid (Bel w wr)) (fun i _=>l.length-(intOf i).toNat)
 case atStart=>exact⟨0,rfl,Nat.zero_le _,HT,HRF⟩
 case round =>
  obtain⟨j,rfl,hj,HS,HB⟩:=hrel;obtain⟨WO,hWO⟩:∃W,W=wr:=⟨_,rfl⟩;subst hWO;clear HT HRF;by_cases hlt:j<l.length
  rotate_left
  ·have hdd:decide ((j:Int)<l.length)=false:=decide_eq_false (by omega);have HR:Hid (false=T):=Hi_ (by rw[←HS.out,List.drop_eq_nil_of_le (by omega)];rfl);go_wp2;go_ret;exact⟨-1,rfl,by rw[←HR.out];rfl,HB.out⟩
  have hdd:decide ((j:Int)<l.length)=true:=decide_eq_true (by omega);obtain⟨x,hx⟩:∃x,l[j]? = some x:=⟨_,List.getElem?_eq_getElem hlt⟩;obtain⟨b,o,rfl,hA⟩:=(HSL.out.keep HB.out).lies (by omega);obtain⟨cs,hcs,hca⟩:=hA j x hx;have HIX:=Hi_ (fun W (hb:Bel WO W)=>HI.out x (List.mem_of_getElem? hx) cs W (teR.keep hb hcs));have HD:Hid ((p x || (l.drop (j+1)).any p)=T):=Hi_ (by rw[←b4g hx];exact HS.out);have i0:(0:Int)≤j:=by omega
  have i1:(j:Int)<l.length:=by omega
  have HL:=Hi_ (teR.len hcs);have HCA:Hid (b0x WO b (o+j*5) cs):=Hi_ hca;clear hcs hca hx HS HI hA;go_upto_region 4 with fail;refine b0E ?_;try dsimp only[List.append]
  refine b0P (some 11) (.func (.func 193) #[] #[]) ?_;refine b0P (some 12) (.slice (some ⟨b,o,none⟩) l.length c) ?_;refine b0P (some 13) (.int .i64 j) ?_;refine b0R (some 14) (.pointer (some ⟨b,o+j*5,none⟩)) (by go_simp) ?_;refine b0R (some 15) _ (b0B 49 (.tmp 14) rfl b2R b (o+j*5) (by kernel_rfl) cs HCA.out HL.out (by kernel_rfl)) ?_;refine b0W (some 16) 193 #[.agg cs.toArray] (HIX.out _ (Bel.rfl_ _)) ?_;rintro r W3 ⟨rfl,hb⟩;replace HB:=Hi_ (HB.out.tr hb);clear hb;refine⟨_,rfl,?_⟩;generalize p x=sm at *;refine b0C ?_;try simp only[Act.put,lA,lB,lC]
  cases sm with
  | false =>
   have HD2:Hid ((l.drop (j+1)).any p=T):=Hi_ (by rw[←HD.out,Bool.false_or]);go_wp2;go_roundw
   case rel=>exact⟨j+1,by go_num,by omega,HD2,HB⟩
   case measure=>simp[intOf];omega
  | true =>
   have HD2:Hid (true=T):=Hi_ (by rw[←HD.out,Bool.true_or]);go_wp2;go_ret;exact⟨j,rfl,by rw[←HD2.out];exact decide_eq_true i0,HB.out⟩
theorem b8a(p:TE→Bool)(l:List TE)(v:Value)(w:World)(h:Sl teR w v l)
  (IH:∀x∈l,∀(cs:List Value) (W:World),teR.R W cs x→Calls Tryz.prog 193 #[.agg cs.toArray] W fun r w'=>r=.returned (.bool (p x))∧Bel W w') :
  Calls Tryz.prog 149 #[v,.func (.func 193) #[] #[]] w fun r w'=>r=.returned (.bool (l.any p))∧Bel w w':=by
 have HC:=Hi_ (c1k p l v w h IH);obtain⟨A,c,rfl,-⟩:=h;generalize l.any p=T at *;clear IH;go_enter Tryz.func149,Tryz.ntmps149;go_wp2_with fail
 refine HC.out.mono ?_;rintro r w1 ⟨k,rfl,hk,hb⟩;have hk2:decide (0≤k)=T:=hk;have HB:=Hi_ hb;clear hb HC hk;cases T with
 | true =>
  go_wp2;go_ret;exact⟨rfl,HB.out⟩
 | false =>
  go_wp2;go_ret;exact⟨rfl,HB.out⟩
end Go.Proofs.YtmfjlcpjemccmaaGreatDoor
