/- Is a function of a tree right, by the program: walked. Each lemma states its own conditions. -/
import Derived.Test.YtmfjlcpjemccmaaGreatDoorSbk32
import Derived.Test.YtmfjlcpjemccmaaGreatDoorSbk33
namespace Go.Proofs.YtmfjlcpjemccmaaGreatDoor
set_option maxRecDepth 20000
set_option maxHeartbeats 4000000
open Go.RowKit
theorem c0A(p:ByteArray→Bool)(l:List ByteArray)(v:Value)(w:World)(h:Sl nmR w v l)
  (IH:∀x∈l,∀(W:World),x.size≤maxLen→Calls Tryz.prog 103 #[.string x] W fun r w'=>r=.returned (.bool (p x))∧Bel W w') :
  Calls Tryz.prog 152 #[v,.func (.func 103) #[] #[]] w fun r w'=>∃k:Int,r=.returned (.int .i64 k)∧decide (0≤k)=l.any p∧Bel w w':=by
 have HSL:=Hi_ h;have HI:=Hi_ IH;have HT:Hid ((l.drop 0).any p=l.any p):=Hi_ rfl;generalize l.any p=T at *;obtain⟨A,c,rfl,hc,hm,-⟩:=h;have hll:l.length≤9223372036854775807:=by have:=hm.1;simp only[maxLen] at this;omega
 have HRF:=Hi_ (Bel.rfl_ w);clear hm hc IH;go_enter Tryz.func152,Tryz.ntmps152;go_wp2;go_loopw [8] (fun i wr=>∃j:Nat,i=.int .i64 j∧j≤l.length∧Hid ((l.drop j).any p=T)∧Hid (Bel w wr)) (fun i _=>l.length-(intOf i).toNat)
 case atStart=>exact⟨0,rfl,Nat.zero_le _,HT,HRF⟩
 case round =>
  obtain⟨j,rfl,hj,HS,HB⟩:=hrel;obtain⟨WO,hWO⟩:∃W,W=wr:=⟨_,rfl⟩;subst hWO;clear HT HRF;by_cases hlt:j<l.length
  rotate_left
  ·have hdd:decide ((j:Int)<l.length)=false:=decide_eq_false (by omega);have HR:Hid (false=T):=Hi_ (by rw[←HS.out,List.drop_eq_nil_of_le (by omega)];rfl);go_wp2;go_ret;exact⟨-1,rfl,by rw[←HR.out];rfl,HB.out⟩
  have hdd:decide ((j:Int)<l.length)=true:=decide_eq_true (by omega);obtain⟨x,hx⟩:∃x,l[j]? = some x:=⟨_,List.getElem?_eq_getElem hlt⟩;obtain⟨b,o,rfl,hA⟩:=(HSL.out.keep HB.out).lies (by omega);obtain⟨hca,hxs⟩:=nmR.cell hA hx;have HIX:=Hi_ (fun W (hb:Bel WO W)=>HI.out x (List.mem_of_getElem? hx) W hxs);have HD:Hid ((p x || (l.drop (j+1)).any p)=T):=Hi_ (by rw[←b4g hx];exact HS.out);have i0:(0:Int)≤j:=by omega
  have i1:(j:Int)<l.length:=by omega
  have HCA:=Hi_ hca;clear hca hx HS HI hA hxs;go_upto_region 4 with fail;refine b0E ?_;try dsimp only[List.append]
  refine b0P (some 11) (.func (.func 103) #[] #[]) ?_;refine b0P (some 12) (.slice (some ⟨b,o,none⟩) l.length c) ?_;refine b0P (some 13) (.int .i64 j) ?_;refine b0R (some 14) (.pointer (some ⟨b,o+j,none⟩)) (by go_simp) ?_;refine b0R (some 15) (.string x) (b0c HCA.out) ?_;refine b0W (some 16) 103 #[.string x] (HIX.out _ (Bel.rfl_ _)) ?_;rintro r W3 ⟨rfl,hb⟩;replace HB:=Hi_ (HB.out.tr hb);clear hb;refine⟨_,rfl,?_⟩;generalize p x=sm at *;refine b0C ?_;try simp only[Act.put,lA,lB,lC]
  cases sm with
  | false =>
   have HD2:Hid ((l.drop (j+1)).any p=T):=Hi_ (by rw[←HD.out,Bool.false_or]);go_wp2;go_roundw
   case rel=>exact⟨j+1,by go_num,by omega,HD2,HB⟩
   case measure=>simp[intOf];omega
  | true =>
   have HD2:Hid (true=T):=Hi_ (by rw[←HD.out,Bool.true_or]);go_wp2;go_ret;exact⟨j,rfl,by rw[←HD2.out];exact decide_eq_true i0,HB.out⟩
theorem b7h(p:ByteArray→Bool)(l:List ByteArray)(v:Value)(w:World)(h:Sl nmR w v l)
  (IH:∀x∈l,∀(W:World),x.size≤maxLen→Calls Tryz.prog 103 #[.string x] W fun r w'=>r=.returned (.bool (p x))∧Bel W w') :
  Calls Tryz.prog 102 #[v,.func (.func 103) #[] #[]] w fun r w'=>r=.returned (.bool (l.any p))∧Bel w w':=by
 have HC:=Hi_ (c0A p l v w h IH);obtain⟨A,c,rfl,-⟩:=h;generalize l.any p=T at *;clear IH;go_enter Tryz.func102,Tryz.ntmps102;go_wp2_with fail
 refine HC.out.mono ?_;rintro r w1 ⟨k,rfl,hk,hb⟩;have hk2:decide (0≤k)=T:=hk;have HB:=Hi_ hb;clear hb HC hk;cases T with
 | true =>
  go_wp2;go_ret;exact⟨rfl,HB.out⟩
 | false =>
  go_wp2;go_ret;exact⟨rfl,HB.out⟩
theorem c1n(p:TV→Bool)(l:List TV)(v:Value)(w:World)(h:Sl tvR w v l)
  (IH:∀x∈l,∀(cs:List Value) (W:World),tvR.R W cs x→Calls Tryz.prog 106 #[.agg cs.toArray] W fun r w'=>r=.returned (.bool (p x))∧Bel W w') :
  Calls Tryz.prog 156 #[v,.func (.func 106) #[] #[]] w fun r w'=>∃k:Int,r=.returned (.int .i64 k)∧decide (0≤k)=l.any p∧Bel w w':=by
 have HSL:=Hi_ h;have HI:=Hi_ IH;have HT:Hid ((l.drop 0).any p=l.any p):=Hi_ rfl;generalize l.any p=T at *;obtain⟨A,c,rfl,hc,hm,-⟩:=h;have hll:l.length≤9223372036854775807:=by have:=hm.1;simp only[maxLen] at this;omega
 have HRF:=Hi_ (Bel.rfl_ w);clear hm hc IH;go_enter Tryz.func156,Tryz.ntmps156;go_wp2;go_loopw [8] (fun i wr=>∃j:Nat,i=.int .i64 j∧j≤l.length∧Hid ((l.drop j).any p=T)∧Hid (Bel w wr)) (fun i _=>l.length-(intOf i).toNat)
 case atStart=>exact⟨0,rfl,Nat.zero_le _,HT,HRF⟩
 case round =>
  obtain⟨j,rfl,hj,HS,HB⟩:=hrel;obtain⟨WO,hWO⟩:∃W,W=wr:=⟨_,rfl⟩;subst hWO;clear HT HRF;by_cases hlt:j<l.length
  rotate_left
  ·have hdd:decide ((j:Int)<l.length)=false:=decide_eq_false (by omega);have HR:Hid (false=T):=Hi_ (by rw[←HS.out,List.drop_eq_nil_of_le (by omega)];rfl);go_wp2;go_ret;exact⟨-1,rfl,by rw[←HR.out];rfl,HB.out⟩
  have hdd:decide ((j:Int)<l.length)=true:=decide_eq_true (by omega);obtain⟨x,hx⟩:∃x,l[j]? = some x:=⟨_,List.getElem?_eq_getElem hlt⟩;obtain⟨b,o,rfl,hA⟩:=(HSL.out.keep HB.out).lies (by omega);obtain⟨cs,hcs,hca⟩:=hA j x hx;have HIX:=Hi_ (fun W (hb:Bel WO W)=>HI.out x (List.mem_of_getElem? hx) cs W (tvR.keep hb hcs));have HD:Hid ((p x || (l.drop (j+1)).any p)=T):=Hi_ (by rw[←b4g hx];exact HS.out);have i0:(0:Int)≤j:=by omega
  have i1:(j:Int)<l.length:=by omega
  have HL:=Hi_ (tvR.len hcs);have HCA:Hid (b0x WO b (o+j*2) cs):=Hi_ hca;clear hcs hca hx HS HI hA;go_upto_region 4 with fail;refine b0E ?_;try dsimp only[List.append]
  refine b0P (some 11) (.func (.func 106) #[] #[]) ?_;refine b0P (some 12) (.slice (some ⟨b,o,none⟩) l.length c) ?_;refine b0P (some 13) (.int .i64 j) ?_;refine b0R (some 14) (.pointer (some ⟨b,o+j*2,none⟩)) (by go_simp) ?_;refine b0R (some 15) _ (b0B 55 (.tmp 14) rfl b9u b (o+j*2) (by kernel_rfl) cs HCA.out HL.out (by kernel_rfl)) ?_;refine b0W (some 16) 106 #[.agg cs.toArray] (HIX.out _ (Bel.rfl_ _)) ?_;rintro r W3 ⟨rfl,hb⟩;replace HB:=Hi_ (HB.out.tr hb);clear hb;refine⟨_,rfl,?_⟩;generalize p x=sm at *;refine b0C ?_;try simp only[Act.put,lA,lB,lC]
  cases sm with
  | false =>
   have HD2:Hid ((l.drop (j+1)).any p=T):=Hi_ (by rw[←HD.out,Bool.false_or]);go_wp2;go_roundw
   case rel=>exact⟨j+1,by go_num,by omega,HD2,HB⟩
   case measure=>simp[intOf];omega
  | true =>
   have HD2:Hid (true=T):=Hi_ (by rw[←HD.out,Bool.true_or]);go_wp2;go_ret;exact⟨j,rfl,by rw[←HD2.out];exact decide_eq_true i0,HB.out⟩
theorem b8d(p:TV→Bool)(l:List TV)(v:Value)(w:World)(h:Sl tvR w v l)
  (IH:∀x∈l,∀(cs:List Value) (W:World),tvR.R W cs x→Calls Tryz.prog 106 #[.agg cs.toArray] W fun r w'=>r=.returned (.bool (p x))∧Bel W w') :
  Calls Tryz.prog 105 #[v,.func (.func 106) #[] #[]] w fun r w'=>r=.returned (.bool (l.any p))∧Bel w w':=by
 have HC:=Hi_ (c1n p l v w h IH);obtain⟨A,c,rfl,-⟩:=h;generalize l.any p=T at *;clear IH;go_enter Tryz.func105,Tryz.ntmps105;go_wp2_with fail
 refine HC.out.mono ?_;rintro r w1 ⟨k,rfl,hk,hb⟩;have hk2:decide (0≤k)=T:=hk;have HB:=Hi_ hb;clear hb HC hk;cases T with
 | true =>
  go_wp2;go_ret;exact⟨rfl,HB.out⟩
 | false =>
  go_wp2;go_ret;exact⟨rfl,HB.out⟩
theorem c6b(s:ByteArray)(w:World)(hm:s.size≤maxLen):Calls Tryz.prog 103 #[.string s] w fun r w'=>r=.returned (.bool (!b0H s))∧Bel w w':=by
 have HN:=Hi_ (b4e s w hm);clear hm;generalize b0H s=T at *;go_enter Tryz.func103,Tryz.ntmps103;go_wp2_with fail
 refine HN.out.mono ?_;rintro r w1 ⟨rfl,hb⟩;go_wp2;go_ret;exact⟨rfl,hb⟩
theorem c7i(x:TV)(cs:List Value)(w:World)(h:tvR.R w cs x):Calls Tryz.prog 106 #[.agg cs.toArray] w fun r w'=>r=.returned (.bool (!x.ok))∧Bel w w':=by
 obtain⟨rfl,hm⟩:=h;have HN:=Hi_ (fun W=>b4e x.name W hm);have HR:Hid (x.ok=(b0H x.name && decide (0≤x.size∧x.size≤9999999))):=Hi_ rfl;have HB:=Hi_ ((Bel.rfl_ w).al (.cells #[.string x.name,.int .i64 x.size] 55));have HK:=Hi_ (Blk.new w 55 #[.string x.name,.int .i64 x.size]);clear hm;generalize x.ok=T at *;generalize b0H x.name=b at *;generalize x.size=n at *;generalize x.name=s at *;go_enter Tryz.func106,Tryz.ntmps106;go_upto_region 1 with fail;generalize w.alloc (.cells #[.string s,.int .i64 n] 55)=W0 at *;generalize w.heap.size=G at *;have c0:=HK.out.cell (i:=0) (v:=.string s) rfl;go_wp2_with fail
 refine(HN.out _).mono ?_;rintro r w1 ⟨rfl,hb⟩;have HB1:=Hi_ (HB.out.tr hb);have c1:=(HK.out.keep hb).cell (i:=1) (v:=.int .i64 n) rfl;clear hb c0;cases b with
 | false =>
  go_wp2;go_ret;exact⟨by rw[HR.out];rfl,HB1.out⟩
 | true =>
  by_cases h1:n<0
  ·have d1:decide (n<0)=true:=decide_eq_true h1;have HR2:Hid (T=false):=Hi_ (by rw[HR.out,Bool.true_and];exact decide_eq_false (by omega));go_wp2;go_ret;exact⟨by rw[HR2.out];rfl,HB1.out⟩
  have d1:decide (n<0)=false:=decide_eq_false h1;by_cases h2:9999999<n
  ·have d2:decide (9999999<n)=true:=decide_eq_true h2;have HR2:Hid (T=false):=Hi_ (by rw[HR.out,Bool.true_and];exact decide_eq_false (by omega));go_wp2;go_ret;exact⟨by rw[HR2.out];rfl,HB1.out⟩
  have d2:decide (9999999<n)=false:=decide_eq_false h2;have HR2:Hid (T=true):=Hi_ (by rw[HR.out,Bool.true_and];exact decide_eq_true (by omega));go_wp2;go_ret;exact⟨by rw[HR2.out];rfl,HB1.out⟩
theorem TF.ok_prog(x:TF)(m:Bool):x.ok m=(b0y x.name (!m) && (b3H x.result (!m) && ((!m || decide (x.params.length=0)) && (x.params.all b0H && (x.vars.all TV.ok && b1l x.cmds))))):=by
 unfold TF.ok;rw[←b1u];cases m with
 | false=>simp[b0y,b3H,Bool.and_assoc]
 | true=>simp[b0y,b3H,Bool.and_assoc]
theorem c5A(x:TF)(m:Bool)(cs:List Value)(w:World)(h:TFR w x cs):Calls Tryz.prog 60 #[.agg cs.toArray,.bool m] w fun r w'=>r=.returned (.bool (x.ok m))∧Bel w w':=by
 obtain⟨vp,vv,vc,vr,rfl,hn,hrn,hsp,hsv,hsc,hsr⟩:=h;have HN1:=Hi_ (fun W (hb:Bel w W)=>b7M x.name (!m) W hn);have HR1:Hid (∀W,Bel w W→Calls Tryz.prog 101 #[.agg #[.int .i64 x.result.kind,.int .i64 x.result.at_,.int .i64 x.result.n,.string x.result.name,vr],.bool (!m)] W fun r w'=>r=.returned (.bool (b3H x.result (!m)))∧Bel W w'):=Hi_ fun W hb=>b9y x.result (!m) _ W ⟨_,rfl,hrn,hsr.keep hb⟩;have HP1:=Hi_ (fun W (hb:Bel w W)=>b7h (fun s=>!b0H s) x.params vp W (hsp.keep hb) fun s _ W hs=>c6b s W hs);have HV1:=Hi_ (fun W (hb:Bel w W)=>b8d (fun v=>!v.ok) x.vars vv W (hsv.keep hb) fun v _ cs W hv=>c7i v cs W hv);have HC1:=Hi_ (fun W (hb:Bel w W)=>c1Y x.cmds vc W (hsc.keep hb));rw[b8O] at HP1 HV1;have HOK:=Hi_ (TF.ok_prog x m);obtain⟨Ap,cp,rfl,-⟩:=hsp;obtain⟨Av,cv,rfl,-⟩:=hsv;obtain⟨Ac,cc,rfl,-⟩:=hsc;obtain⟨Ar,cr,rfl,-⟩:=hsr;clear hn hrn;cases m with
 | false =>
  have HE:Hid ((b0y x.name true && (b3H x.result true && (x.params.all b0H && (x.vars.all TV.ok && b1l x.cmds))))=x.ok false):=Hi_ (by rw[HOK.out];rfl);replace HN1:Hid (∀W,Bel w W→Calls Tryz.prog 100 #[.string x.name,.bool true] W fun r w'=>r=.returned (.bool (b0y x.name true))∧Bel W w'):=HN1;replace HR1:Hid (∀W,Bel w W→Calls Tryz.prog 101 #[.agg #[.int .i64 x.result.kind,.int .i64 x.result.at_,.int .i64 x.result.n,.string x.result.name,.slice Ar x.result.args.length cr],.bool true] W fun r w'=>r=.returned (.bool (b3H x.result true))∧Bel W w'):=HR1;clear HOK;generalize x.ok false=T at *;generalize b0y x.name true=b1 at *;generalize b3H x.result true=b2 at *;generalize x.params.all b0H=bP at *;generalize x.vars.all TV.ok=bV at *;generalize b1l x.cmds=bC at *;generalize x.result.kind=rk at *;generalize x.result.at_=ra at *;generalize x.result.n=rn at *;generalize x.result.name=rs at *;generalize x.at_=xa at *;generalize x.name=xn at *;have HX:=Hi_ ((Bel.rfl_ w).al (.cells #[.int .i64 xa,.string xn,.slice Ap x.params.length cp,.slice Av x.vars.length cv,.slice Ac x.cmds.length cc,.int .i64 rk,.int .i64 ra,.int .i64 rn,.string rs,.slice Ar x.result.args.length cr] 51));have HK:=Hi_ (Blk.new w 51 #[.int .i64 xa,.string xn,.slice Ap x.params.length cp,.slice Av x.vars.length cv,.slice Ac x.cmds.length cc,.int .i64 rk,.int .i64 ra,.int .i64 rn,.string rs,.slice Ar x.result.args.length cr]);go_enter Tryz.func60,Tryz.ntmps60;go_upto_region 1 with fail;generalize w.alloc (.cells #[.int .i64 xa,.string xn,.slice Ap x.params.length cp,.slice Av x.vars.length cv,.slice Ac x.cmds.length cc,.int .i64 rk,.int .i64 ra,.int .i64 rn,.string rs,.slice Ar x.result.args.length cr] 51)=W0 at *;generalize w.heap.size=G at *;refine b0E ?_;try dsimp only[List.append]
  refine b0P (some 5) (.pointer (some ⟨G,1,none⟩)) ?_;refine b0R (some 6) _ (b0c (HK.out.cell (i:=1) (v:=.string xn) rfl)) ?_;refine b0V 2 7 [.bool false,.bool true] ?_;refine b0W (some 9) 100 #[.string xn,.bool true] (HN1.out _ HX.out) ?_;rintro r W3 ⟨rfl,hb⟩;replace HX:=Hi_ (HX.out.tr hb);replace HK:=Hi_ (HK.out.keep hb);clear hb;refine⟨_,rfl,?_⟩;cases b1 with
  | false =>
   rw[Bool.false_and] at HE;refine b0V 18 10 [.bool true,.bool true,uD,uD,uD,uD,uD,uD,.bool true,.bool true,uD,uD,uD,uD,uD,uD,uD,.bool true] ?_;refine b0C ?_;try simp only[sP,Act.put,lA,lB,lC]
   go_wp2;go_ret;exact⟨by rw[←HE.out];rfl,HX.out⟩
  | true =>
   rw[Bool.true_and] at HE;refine b0V 3 10 [.bool false,.bool false,.pointer (some ⟨G,5,none⟩)] ?_;refine b0R (some 13) _ (b0B 49 (.tmp 12) rfl b2R G 5 (by kernel_rfl) [.int .i64 rk,.int .i64 ra,.int .i64 rn,.string rs,.slice Ar x.result.args.length cr] (b0b HK.out 5 rfl) rfl (by kernel_rfl)) ?_;refine b0V 2 14 [.bool false,.bool true] ?_;refine b0W (some 16) 101 #[.agg #[.int .i64 rk,.int .i64 ra,.int .i64 rn,.string rs,.slice Ar x.result.args.length cr],.bool true] (HR1.out _ HX.out) ?_;rintro r W3 ⟨rfl,hb⟩;replace HX:=Hi_ (HX.out.tr hb);replace HK:=Hi_ (HK.out.keep hb);clear hb;refine⟨_,rfl,?_⟩;cases b2 with
   | false =>
    rw[Bool.false_and] at HE;refine b0V 11 17 [.bool true,.bool true,.bool true,uD,uD,uD,uD,uD,uD,uD,.bool true] ?_;refine b0C ?_;try simp only[sP,Act.put,lA,lB,lC]
    go_wp2;go_ret;exact⟨by rw[←HE.out];rfl,HX.out⟩
   | true =>
    rw[Bool.true_and] at HE;refine b0V 11 17 [.bool false,.bool false,.bool false,.bool false,.bool false,uD,uD,uD,uD,.bool false,.bool false] ?_;refine b0C ?_;try simp only[sP,Act.put,lA,lB,lC]
    have c2:=HK.out.cell (i:=2) (v:=.slice Ap x.params.length cp) rfl;go_wp2_with fail
    refine(HP1.out _ HX.out).mono ?_;rintro r W4 ⟨rfl,hb⟩;replace HX:=Hi_ (HX.out.tr hb);replace HK:=Hi_ (HK.out.keep hb);clear hb c2;cases bP with
    | false =>
     rw[Bool.false_and] at HE;go_wp2;go_ret;exact⟨by rw[←HE.out];rfl,HX.out⟩
    | true =>
     rw[Bool.true_and] at HE;have c3:=HK.out.cell (i:=3) (v:=.slice Av x.vars.length cv) rfl;go_wp2_with fail
     refine(HV1.out _ HX.out).mono ?_;rintro r W4 ⟨rfl,hb⟩;replace HX:=Hi_ (HX.out.tr hb);replace HK:=Hi_ (HK.out.keep hb);clear hb c3;cases bV with
     | false =>
      rw[Bool.false_and] at HE;go_wp2;go_ret;exact⟨by rw[←HE.out];rfl,HX.out⟩
     | true =>
      rw[Bool.true_and] at HE;have c4:=HK.out.cell (i:=4) (v:=.slice Ac x.cmds.length cc) rfl;go_wp2_with fail
      refine(HC1.out _ HX.out).mono ?_;rintro r W4 ⟨rfl,hb⟩;replace HX:=Hi_ (HX.out.tr hb);replace HK:=Hi_ (HK.out.keep hb);clear hb c4;go_wp2;go_ret;exact⟨by rw[←HE.out];rfl,HX.out⟩
 | true =>
  have HE:Hid ((b0y x.name false && (b3H x.result false && (decide (x.params.length=0) && (x.params.all b0H && (x.vars.all TV.ok && b1l x.cmds)))))=x.ok true):=Hi_ (by rw[HOK.out];rfl);replace HN1:Hid (∀W,Bel w W→Calls Tryz.prog 100 #[.string x.name,.bool false] W fun r w'=>r=.returned (.bool (b0y x.name false))∧Bel W w'):=HN1;replace HR1:Hid (∀W,Bel w W→Calls Tryz.prog 101 #[.agg #[.int .i64 x.result.kind,.int .i64 x.result.at_,.int .i64 x.result.n,.string x.result.name,.slice Ar x.result.args.length cr],.bool false] W fun r w'=>r=.returned (.bool (b3H x.result false))∧Bel W w'):=HR1;clear HOK;generalize x.ok true=T at *;generalize b0y x.name false=b1 at *;generalize b3H x.result false=b2 at *;generalize x.params.all b0H=bP at *;generalize x.vars.all TV.ok=bV at *;generalize b1l x.cmds=bC at *;generalize x.result.kind=rk at *;generalize x.result.at_=ra at *;generalize x.result.n=rn at *;generalize x.result.name=rs at *;generalize x.at_=xa at *;generalize x.name=xn at *;have HX:=Hi_ ((Bel.rfl_ w).al (.cells #[.int .i64 xa,.string xn,.slice Ap x.params.length cp,.slice Av x.vars.length cv,.slice Ac x.cmds.length cc,.int .i64 rk,.int .i64 ra,.int .i64 rn,.string rs,.slice Ar x.result.args.length cr] 51));have HK:=Hi_ (Blk.new w 51 #[.int .i64 xa,.string xn,.slice Ap x.params.length cp,.slice Av x.vars.length cv,.slice Ac x.cmds.length cc,.int .i64 rk,.int .i64 ra,.int .i64 rn,.string rs,.slice Ar x.result.args.length cr]);go_enter Tryz.func60,Tryz.ntmps60;go_upto_region 1 with fail;generalize w.alloc (.cells #[.int .i64 xa,.string xn,.slice Ap x.params.length cp,.slice Av x.vars.length cv,.slice Ac x.cmds.length cc,.int .i64 rk,.int .i64 ra,.int .i64 rn,.string rs,.slice Ar x.result.args.length cr] 51)=W0 at *;generalize w.heap.size=G at *;refine b0E ?_;try dsimp only[List.append]
  refine b0P (some 5) (.pointer (some ⟨G,1,none⟩)) ?_;refine b0R (some 6) _ (b0c (HK.out.cell (i:=1) (v:=.string xn) rfl)) ?_;refine b0V 2 7 [.bool true,.bool false] ?_;refine b0W (some 9) 100 #[.string xn,.bool false] (HN1.out _ HX.out) ?_;rintro r W3 ⟨rfl,hb⟩;replace HX:=Hi_ (HX.out.tr hb);replace HK:=Hi_ (HK.out.keep hb);clear hb;refine⟨_,rfl,?_⟩;cases b1 with
  | false =>
   rw[Bool.false_and] at HE;refine b0V 18 10 [.bool true,.bool true,uD,uD,uD,uD,uD,uD,.bool true,.bool true,uD,uD,uD,uD,uD,uD,uD,.bool true] ?_;refine b0C ?_;try simp only[sP,Act.put,lA,lB,lC]
   go_wp2;go_ret;exact⟨by rw[←HE.out];rfl,HX.out⟩
  | true =>
   rw[Bool.true_and] at HE;refine b0V 3 10 [.bool false,.bool false,.pointer (some ⟨G,5,none⟩)] ?_;refine b0R (some 13) _ (b0B 49 (.tmp 12) rfl b2R G 5 (by kernel_rfl) [.int .i64 rk,.int .i64 ra,.int .i64 rn,.string rs,.slice Ar x.result.args.length cr] (b0b HK.out 5 rfl) rfl (by kernel_rfl)) ?_;refine b0V 2 14 [.bool true,.bool false] ?_;refine b0W (some 16) 101 #[.agg #[.int .i64 rk,.int .i64 ra,.int .i64 rn,.string rs,.slice Ar x.result.args.length cr],.bool false] (HR1.out _ HX.out) ?_;rintro r W3 ⟨rfl,hb⟩;replace HX:=Hi_ (HX.out.tr hb);replace HK:=Hi_ (HK.out.keep hb);clear hb;refine⟨_,rfl,?_⟩;cases b2 with
   | false =>
    rw[Bool.false_and] at HE;refine b0V 11 17 [.bool true,.bool true,.bool true,uD,uD,uD,uD,uD,uD,uD,.bool true] ?_;refine b0C ?_;try simp only[sP,Act.put,lA,lB,lC]
    go_wp2;go_ret;exact⟨by rw[←HE.out];rfl,HX.out⟩
   | true =>
    rw[Bool.true_and] at HE;refine b0V 6 17 [.bool false,.bool false,.bool false,.bool true,.bool true,.pointer (some ⟨G,2,none⟩)] ?_;refine b0R (some 23) _ (b7w (HK.out.cell (i:=2) (v:=.slice Ap x.params.length cp) rfl)) ?_;refine b0P (some 24) (.int .i64 x.params.length) ?_;by_cases hzA:x.params.length=0
    rotate_left
    ·have dzA:decide ((0:Int)<x.params.length)=true:=decide_eq_true (by omega);rw[decide_eq_false hzA,Bool.false_and] at HE;refine b0R (some 25) (.bool true) (b0f rfl (by kernel_rfl) (by kernel_rfl) dzA) ?_;refine b0V 2 26 [.bool true,.bool true] ?_;refine b0C ?_;try simp only[sP,Act.put,lA,lB,lC]
     go_wp2;go_ret;exact⟨by rw[←HE.out];rfl,HX.out⟩
    have dzA:decide ((0:Int)<x.params.length)=false:=decide_eq_false (by omega);rw[decide_eq_true hzA,Bool.true_and] at HE;clear hzA;refine b0R (some 25) (.bool false) (b0f rfl (by kernel_rfl) (by kernel_rfl) dzA) ?_;refine b0V 2 26 [.bool false,.bool false] ?_;refine b0C ?_;try simp only[sP,Act.put,lA,lB,lC]
    have c2:=HK.out.cell (i:=2) (v:=.slice Ap x.params.length cp) rfl;go_wp2_with fail
    refine(HP1.out _ HX.out).mono ?_;rintro r W4 ⟨rfl,hb⟩;replace HX:=Hi_ (HX.out.tr hb);replace HK:=Hi_ (HK.out.keep hb);clear hb c2;cases bP with
    | false =>
     rw[Bool.false_and] at HE;go_wp2;go_ret;exact⟨by rw[←HE.out];rfl,HX.out⟩
    | true =>
     rw[Bool.true_and] at HE;have c3:=HK.out.cell (i:=3) (v:=.slice Av x.vars.length cv) rfl;go_wp2_with fail
     refine(HV1.out _ HX.out).mono ?_;rintro r W4 ⟨rfl,hb⟩;replace HX:=Hi_ (HX.out.tr hb);replace HK:=Hi_ (HK.out.keep hb);clear hb c3;cases bV with
     | false =>
      rw[Bool.false_and] at HE;go_wp2;go_ret;exact⟨by rw[←HE.out];rfl,HX.out⟩
     | true =>
      rw[Bool.true_and] at HE;have c4:=HK.out.cell (i:=4) (v:=.slice Ac x.cmds.length cc) rfl;go_wp2_with fail
      refine(HC1.out _ HX.out).mono ?_;rintro r W4 ⟨rfl,hb⟩;replace HX:=Hi_ (HX.out.tr hb);replace HK:=Hi_ (HK.out.keep hb);clear hb c4;go_wp2;go_ret;exact⟨by rw[←HE.out];rfl,HX.out⟩
end Go.Proofs.YtmfjlcpjemccmaaGreatDoor
