/- Is a command of a tree right, by the program: walked. Each lemma states its own conditions. -/
import Derived.Test.YtmfjlcpjemccmaaGreatDoorSbk31
import Derived.Test.YtmfjlcpjemccmaaGreatDoorSbk23
namespace Go.Proofs.YtmfjlcpjemccmaaGreatDoor
set_option maxRecDepth 20000
set_option maxHeartbeats 8000000
open Go.RowKit
theorem b0f{o:Oper}{ρ:Operand→Value}{W:World}{x y:Operand}{t2:TypeId}{k l:Int}{c:Bool}(ho:o.op=.binOp .gtr 3 x y t2)(hx:ρ x=.int .i64 k)(hy:ρ y=.int .i64 l)(hc:decide (l<k)=c):(execOp ρ o).run Tryz.prog W=.ok (.value (.bool c)) W:=by
 subst hc;simp[execOp,ho,hx,hy,go_sem]
def b3H(e:TE)(m:Bool):Bool:=if m then e.ok else e.none_
theorem b9y(e:TE)(m:Bool)(val:Value)(w:World)(h:TEV w e val):Calls Tryz.prog 101 #[val,.bool m] w fun r w'=>r=.returned (.bool (b3H e m))∧Bel w w':=by
 have HX:=Hi_ (fun W (hb:Bel w W)=>c0r e val W (h.keep hb));have HN:=Hi_ (fun W (hb:Bel w W)=>c5R e val W (h.keep hb) (Sl.max h.choose_spec.2.2));obtain⟨v,rfl,-,A,c,rfl,-⟩:=h;generalize e.kind=k at *;generalize e.at_=a at *;generalize e.n=n at *;generalize e.name=s at *;have HB:=Hi_ ((Bel.rfl_ w).al (.cells #[.int .i64 k,.int .i64 a,.int .i64 n,.string s,.slice A e.args.length c] 49));cases m with
 | true =>
  have HR:Hid (b3H e true=e.ok):=Hi_ rfl;generalize e.ok=b at *;clear HN;go_enter Tryz.func101,Tryz.ntmps101;go_wp2_with fail
  refine(HX.out _ HB.out).mono ?_;rintro r w1 ⟨rfl,hb⟩;have HB1:=Hi_ (HB.out.tr hb);clear hb;cases b with
  | true =>
   go_wp2;go_ret;exact⟨by rw[HR.out];rfl,HB1.out⟩
  | false =>
   go_wp2;go_ret;exact⟨by rw[HR.out];rfl,HB1.out⟩
 | false =>
  have HR:Hid (b3H e false=e.none_):=Hi_ rfl;generalize e.none_=b at *;clear HX;go_enter Tryz.func101,Tryz.ntmps101;go_wp2_with fail
  refine(HN.out _ HB.out).mono ?_;rintro r w1 ⟨rfl,hb⟩;have HB1:=Hi_ (HB.out.tr hb);clear hb;go_wp2;go_ret;exact⟨by rw[HR.out];rfl,HB1.out⟩
theorem c1l(p:TC→Bool)(l:List TC)(v:Value)(w:World)(h:Sl tcR w v l)
  (IH:∀x∈l,∀(cs:List Value) (W:World),tcR.R W cs x→Calls Tryz.prog 158 #[.agg cs.toArray] W fun r w'=>r=.returned (.bool (p x))∧Bel W w') :
  Calls Tryz.prog 192 #[v,.func (.func 158) #[] #[]] w fun r w'=>∃k:Int,r=.returned (.int .i64 k)∧decide (0≤k)=l.any p∧Bel w w':=by
 have HSL:=Hi_ h;have HI:=Hi_ IH;have HT:Hid ((l.drop 0).any p=l.any p):=Hi_ rfl;generalize l.any p=T at *;obtain⟨A,c,rfl,hc,hm,-⟩:=h;have hll:l.length≤9223372036854775807:=by have:=hm.1;simp only[maxLen] at this;omega
 have HRF:=Hi_ (Bel.rfl_ w);clear hm hc IH;go_enter Tryz.func192,Tryz.ntmps192;go_wp2;go_loopw [8] (fun i wr=>∃j:Nat,i=.int .i64 j∧j≤l.length∧Hid ((l.drop j).any p=T)∧Hid (Bel w wr)) (fun i _=>l.length-(intOf i).toNat)
 case atStart=>exact⟨0,rfl,Nat.zero_le _,HT,HRF⟩
 case round =>
  obtain⟨j,rfl,hj,HS,HB⟩:=hrel;obtain⟨WO,hWO⟩:∃W,W=wr:=⟨_,rfl⟩;subst hWO;clear HT HRF;by_cases hlt:j<l.length
  rotate_left
  ·have hdd:decide ((j:Int)<l.length)=false:=decide_eq_false (by omega);have HR:Hid (false=T):=Hi_ (by rw[←HS.out,List.drop_eq_nil_of_le (by omega)];rfl);go_wp2;go_ret;exact⟨-1,rfl,by rw[←HR.out];rfl,HB.out⟩
  have hdd:decide ((j:Int)<l.length)=true:=decide_eq_true (by omega);obtain⟨x,hx⟩:∃x,l[j]? = some x:=⟨_,List.getElem?_eq_getElem hlt⟩;obtain⟨b,o,rfl,hA⟩:=(HSL.out.keep HB.out).lies (by omega);obtain⟨cs,hcs,hca⟩:=hA j x hx;have HIX:=Hi_ (fun W (hb:Bel WO W)=>HI.out x (List.mem_of_getElem? hx) cs W (tcR.keep hb hcs));have HD:Hid ((p x || (l.drop (j+1)).any p)=T):=Hi_ (by rw[←b4g hx];exact HS.out);have i0:(0:Int)≤j:=by omega
  have i1:(j:Int)<l.length:=by omega
  have HL:=Hi_ (tcR.len hcs);have HCA:Hid (b0x WO b (o+j*17) cs):=Hi_ hca;clear hcs hca hx HS HI hA;go_upto_region 4 with fail;refine b0E ?_;try dsimp only[List.append]
  refine b0P (some 11) (.func (.func 158) #[] #[]) ?_;refine b0P (some 12) (.slice (some ⟨b,o,none⟩) l.length c) ?_;refine b0P (some 13) (.int .i64 j) ?_;refine b0R (some 14) (.pointer (some ⟨b,o+j*17,none⟩)) (by go_simp) ?_;refine b0R (some 15) _ (b0B 53 (.tmp 14) rfl b8g b (o+j*17) (by kernel_rfl) cs HCA.out HL.out (by kernel_rfl)) ?_;refine b0W (some 16) 158 #[.agg cs.toArray] (HIX.out _ (Bel.rfl_ _)) ?_;rintro r W3 ⟨rfl,hb⟩;replace HB:=Hi_ (HB.out.tr hb);clear hb;refine⟨_,rfl,?_⟩;generalize p x=sm at *;refine b0C ?_;try simp only[Act.put,lA,lB,lC]
  cases sm with
  | false =>
   have HD2:Hid ((l.drop (j+1)).any p=T):=Hi_ (by rw[←HD.out,Bool.false_or]);go_wp2;go_roundw
   case rel=>exact⟨j+1,by go_num,by omega,HD2,HB⟩
   case measure=>simp[intOf];omega
  | true =>
   have HD2:Hid (true=T):=Hi_ (by rw[←HD.out,Bool.true_or]);go_wp2;go_ret;exact⟨j,rfl,by rw[←HD2.out];exact decide_eq_true i0,HB.out⟩
theorem b8b(p:TC→Bool)(l:List TC)(v:Value)(w:World)(h:Sl tcR w v l)
  (IH:∀x∈l,∀(cs:List Value) (W:World),tcR.R W cs x→Calls Tryz.prog 158 #[.agg cs.toArray] W fun r w'=>r=.returned (.bool (p x))∧Bel W w') :
  Calls Tryz.prog 157 #[v,.func (.func 158) #[] #[]] w fun r w'=>r=.returned (.bool (l.any p))∧Bel w w':=by
 have HC:=Hi_ (c1l p l v w h IH);obtain⟨A,c,rfl,-⟩:=h;generalize l.any p=T at *;clear IH;go_enter Tryz.func157,Tryz.ntmps157;go_wp2_with fail
 refine HC.out.mono ?_;rintro r w1 ⟨k,rfl,hk,hb⟩;have hk2:decide (0≤k)=T:=hk;have HB:=Hi_ hb;clear hb HC hk;cases T with
 | true =>
  go_wp2;go_ret;exact⟨rfl,HB.out⟩
 | false =>
  go_wp2;go_ret;exact⟨rfl,HB.out⟩
theorem c7h(x:TC)(cs:List Value)(w:World)(h:TCR w x cs)(IH:∀W,Bel w W→Calls Tryz.prog 159 #[.agg cs.toArray] W fun r w'=>r=.returned (.bool x.ok)∧Bel W w') :
  Calls Tryz.prog 158 #[.agg cs.toArray] w fun r w'=>r=.returned (.bool (!x.ok))∧Bel w w':=by
 have HI:=Hi_ IH;have HL:=Hi_ (tcR.len h);obtain⟨vi,ve,va,vt,vs,hcs,-⟩:=b4M h;clear h IH;generalize x.ok=T at *;have HB:=Hi_ ((Bel.rfl_ w).al (.cells cs.toArray 53));have HK:=Hi_ (Blk.new w 53 cs.toArray);subst hcs;go_enter Tryz.func158,Tryz.ntmps158;go_upto_region 1 with fail;refine b0E ?_;try dsimp only[List.append]
 refine b0R (some 3) _ (b0B 53 (.tmp 1) rfl b8g w.heap.size 0 (by kernel_rfl) _ (b3V HK.out) HL.out (by kernel_rfl)) ?_;refine b0W (some 4) 159 #[.agg _] (HI.out _ HB.out) ?_;rintro r w1 ⟨rfl,hb⟩;have HB1:=Hi_ (HB.out.tr hb);clear hb HK HB;refine⟨_,rfl,?_⟩;refine b0P (some 5) (.bool (!T)) ?_;refine b0P (some 2) (.bool (!T)) ?_;refine b0C ?_;try simp only[Act.put,lA,lB,lC]
 go_wp2;go_ret;exact⟨rfl,HB1.out⟩
theorem b5H(l:List TC)(v:Value)(w:World)(h:Sl tcR w v l)(IH:∀x∈l,∀(cs:List Value) (W:World),TCR W x cs→Calls Tryz.prog 159 #[.agg cs.toArray] W fun r w'=>r=.returned (.bool x.ok)∧Bel W w') :
  Calls Tryz.prog 107 #[v] w fun r w'=>r=.returned (.bool (b1l l))∧Bel w w':=by
 have HC:=Hi_ (b8b (fun x=>!x.ok) l v w h fun x hx cs W hr=>c7h x cs W hr fun W' hb=>IH x hx cs W' (tcR.keep hb hr));rw[b8O,←b1u] at HC;obtain⟨A,c,rfl,-⟩:=h;generalize b1l l=T at *;clear IH;go_enter Tryz.func107,Tryz.ntmps107;go_wp2_with fail
 refine HC.out.mono ?_;rintro r w1 ⟨rfl,hb⟩;go_wp2;go_ret;exact⟨rfl,hb⟩
theorem c3Y{α:Type}{l:List α}{c:Prop}[Decidable c]{b:Bool}(h:l.length=0→b=true):(if c then b else decide (l.length=0))=((decide c || decide (l.length=0)) && b):=by
 by_cases hc:c
 ·rw[if_pos hc,decide_eq_true hc,Bool.true_or,Bool.true_and]
 ·rw[if_neg hc,decide_eq_false hc,Bool.false_or];by_cases h0:l.length=0
  ·rw[h h0,Bool.and_true]
  ·rw[decide_eq_false h0,Bool.false_and]
theorem TC.ok_prog(x:TC):x.ok=(decide (1≤x.kind∧x.kind≤7) && (b0y x.name (decide (x.kind≤4)) && (b0y x.other (decide (x.kind=3)) && (b3H x.index (decide (x.kind=2)) && (b3H x.expr (decide (x.kind≠3∧x.kind≠4)) &&
  ((decide (x.kind=3) || decide (x.args.length=0)) && ((decide (6≤x.kind) || decide (x.thn.length=0)) && ((decide (x.kind=6) || decide (x.els.length=0)) && (x.args.all TE.ok && (b1l x.thn && b1l x.els)))))))))):=by
 rw[TC.ok_eq,c3Y (fun h=>by rw[List.eq_nil_of_length_eq_zero h];rfl),c3Y (fun h=>by rw[List.eq_nil_of_length_eq_zero h];rfl),c3Y (fun h=>by rw[List.eq_nil_of_length_eq_zero h];rfl),←b1u,←b1u]
 have h1:(if x.kind≤4 then b0H x.name else decide (x.name=emp))=b0y x.name (decide (x.kind≤4)):=by
  unfold b0y;by_cases h:x.kind≤4<;>simp[h]
 have h2:(if x.kind=3 then b0H x.other else decide (x.other=emp))=b0y x.other (decide (x.kind=3)):=by
  unfold b0y;by_cases h:x.kind=3<;>simp[h]
 have h3:(if x.kind=2 then x.index.ok else x.index.none_)=b3H x.index (decide (x.kind=2)):=by
  unfold b3H;by_cases h:x.kind=2<;>simp[h]
 have h4:(if x.kind=3∨x.kind=4 then x.expr.none_ else x.expr.ok)=b3H x.expr (decide (x.kind≠3∧x.kind≠4)):=by
  unfold b3H;by_cases h:x.kind=3∨x.kind=4
  ·rw[if_pos h,decide_eq_false (by omega)];rfl
  ·rw[if_neg h,decide_eq_true (by omega)];rfl
 rw[h1,h2,h3,h4]
 ac_rfl
theorem c4t(x:TC)(cs:List Value)(w:World)(h:TCR w x cs)
  (IHT:∀z∈x.thn,∀(cs:List Value) (W:World),TCR W z cs→Calls Tryz.prog 159 #[.agg cs.toArray] W fun r w'=>r=.returned (.bool z.ok)∧Bel W w')
  (IHE:∀z∈x.els,∀(cs:List Value) (W:World),TCR W z cs→Calls Tryz.prog 159 #[.agg cs.toArray] W fun r w'=>r=.returned (.bool z.ok)∧Bel W w') :
  Calls Tryz.prog 159 #[.agg cs.toArray] w fun r w'=>r=.returned (.bool x.ok)∧Bel w w':=by
 obtain⟨vi,ve,va,vt,vs,rfl,hn,ho,hin,hen,hsi,hse,hsa,hst,hsl⟩:=b4M h;have HN1:=Hi_ (fun m W=>b7M x.name m W hn);have HN2:=Hi_ (fun m W=>b7M x.other m W ho);have HI1:Hid (∀m W,Bel w W→Calls Tryz.prog 101 #[.agg #[.int .i64 x.index.kind,.int .i64 x.index.at_,.int .i64 x.index.n,.string x.index.name,vi],.bool m] W fun r w'=>r=.returned (.bool (b3H x.index m))∧Bel W w'):=Hi_ fun m W hb=>b9y x.index m _ W ⟨_,rfl,hin,hsi.keep hb⟩;have HE1:Hid (∀m W,Bel w W→Calls Tryz.prog 101 #[.agg #[.int .i64 x.expr.kind,.int .i64 x.expr.at_,.int .i64 x.expr.n,.string x.expr.name,ve],.bool m] W fun r w'=>r=.returned (.bool (b3H x.expr m))∧Bel W w'):=Hi_ fun m W hb=>b9y x.expr m _ W ⟨_,rfl,hen,hse.keep hb⟩;have HA1:=Hi_ (fun W (hb:Bel w W)=>b8a (fun x=>!x.ok) x.args va W (hsa.keep hb) fun z _ cs W h=>c3i _ (Or.inr rfl) z (fun val W=>c0r z val W) cs W h);have HT1:=Hi_ (fun W (hb:Bel w W)=>b5H x.thn vt W (hst.keep hb) IHT);have HL1:=Hi_ (fun W (hb:Bel w W)=>b5H x.els vs W (hsl.keep hb) IHE);rw[b8O] at HA1;have HOK:=Hi_ (TC.ok_prog x);obtain⟨Ai,ci,rfl,-⟩:=hsi;obtain⟨Ae,ce,rfl,-⟩:=hse;obtain⟨Aa,ca,rfl,-⟩:=hsa;obtain⟨At,ct,rfl,-⟩:=hst;obtain⟨Al,cl,rfl,-⟩:=hsl;clear hn ho hin hen IHT IHE h;have HX:=Hi_ ((Bel.rfl_ w).al (.cells #[.int .i64 x.kind,.int .i64 x.at_,.string x.name,.string x.other,.int .i64 x.index.kind,.int .i64 x.index.at_,.int .i64 x.index.n,.string x.index.name,.slice Ai x.index.args.length ci,.int .i64 x.expr.kind,.int .i64 x.expr.at_,.int .i64 x.expr.n,.string x.expr.name,.slice Ae x.expr.args.length ce,.slice Aa x.args.length ca,.slice At x.thn.length ct,.slice Al x.els.length cl] 53))
 have HK:=Hi_ (Blk.new w 53 #[.int .i64 x.kind,.int .i64 x.at_,.string x.name,.string x.other,.int .i64 x.index.kind,.int .i64 x.index.at_,.int .i64 x.index.n,.string x.index.name,.slice Ai x.index.args.length ci,.int .i64 x.expr.kind,.int .i64 x.expr.at_,.int .i64 x.expr.n,.string x.expr.name,.slice Ae x.expr.args.length ce,.slice Aa x.args.length ca,.slice At x.thn.length ct,.slice Al x.els.length cl]);by_cases h17:1≤x.kind∧x.kind≤7
 rotate_left
 ·have HR:Hid (false=x.ok):=Hi_ (by rw[HOK.out,decide_eq_false h17,Bool.false_and]);generalize x.ok=T at *;generalize x.kind=xk at *;have c0:=HK.out.cell (i:=0) (v:=.int .i64 xk) rfl;clear HOK;by_cases h1:xk<1
  ·have d1:decide (xk<1)=true:=decide_eq_true h1;clear h17 HN1 HN2 HI1 HE1 HA1 HT1 HL1;go_enter Tryz.func159,Tryz.ntmps159;go_wp2;go_ret;exact⟨by rw[←HR.out];rfl,HX.out⟩
  ·have d1:decide (xk<1)=false:=decide_eq_false h1;have d2:decide (7<xk)=true:=decide_eq_true (by omega);clear h17 HN1 HN2 HI1 HE1 HA1 HT1 HL1;go_enter Tryz.func159,Tryz.ntmps159;go_wp2;go_ret;exact⟨by rw[←HR.out];rfl,HX.out⟩
 have hk':x.kind=1∨x.kind=2∨x.kind=3∨x.kind=4∨x.kind=5∨x.kind=6∨x.kind=7:=by omega
 clear h17;rcases hk' with hk | hk | hk | hk | hk | hk | hk
 ·have HE:Hid ((b0y x.name true && (b0y x.other false && (b3H x.index false && (b3H x.expr true && (decide (x.args.length=0) && (decide (x.thn.length=0) && (decide (x.els.length=0) && (x.args.all TE.ok && (b1l x.thn && b1l x.els)))))))))=x.ok):=Hi_ (by rw[TC.ok_prog,hk];rfl);replace HN1:=Hi_ (fun W (hb:Bel w W)=>HN1.out true W);replace HN2:=Hi_ (fun W (hb:Bel w W)=>HN2.out false W);replace HI1:=Hi_ (HI1.out false);replace HE1:=Hi_ (HE1.out true);clear HOK;rw[hk] at HK HX ⊢;clear hk;generalize x.ok=T at *;generalize b0y x.name true=b1 at *;generalize b0y x.other false=b2 at *;generalize b3H x.index false=b3 at *;generalize b3H x.expr true=b4 at *;generalize x.args.all TE.ok=bA at *;generalize b1l x.thn=bT at *;generalize b1l x.els=bE at *;generalize x.at_=xa at *;generalize x.name=xn at *;generalize x.other=xo at *;generalize x.index.kind=ik at *;generalize x.index.at_=ia at *;generalize x.index.n=iN at *;generalize x.index.name=is_ at *;generalize x.expr.kind=ek at *;generalize x.expr.at_=ea at *;generalize x.expr.n=en at *;generalize x.expr.name=es at *;go_enter Tryz.func159,Tryz.ntmps159;go_upto_region 1 with fail;generalize w.alloc (.cells #[.int .i64 1,.int .i64 xa,.string xn,.string xo,.int .i64 ik,.int .i64 ia,.int .i64 iN,.string is_,.slice Ai x.index.args.length ci,.int .i64 ek,.int .i64 ea,.int .i64 en,.string es,.slice Ae x.expr.args.length ce,.slice Aa x.args.length ca,.slice At x.thn.length ct,.slice Al x.els.length cl] 53)=W0 at *;generalize w.heap.size=G at *;have c0:=HK.out.cell (i:=0) (v:=.int .i64 1) rfl;go_upto_region 5 with fail;clear c0;refine b0E ?_;try dsimp only[List.append]
  refine b0P (some 15) (.pointer (some ⟨G,2,none⟩)) ?_;refine b0R (some 16) _ (b0c (HK.out.cell (i:=2) (v:=.string xn) rfl)) ?_;refine b0P (some 17) (.int .i64 1) ?_;refine b0P (some 18) (.bool true) ?_;refine b0W (some 19) 100 #[.string xn,.bool true] (HN1.out _ HX.out) ?_;rintro r W3 ⟨rfl,hb⟩;replace HX:=Hi_ (HX.out.tr hb);replace HK:=Hi_ (HK.out.keep hb);clear hb;refine⟨_,rfl,?_⟩;cases b1 with
  | false =>
   rw[Bool.false_and] at HE;refine b0V 29 20 [.bool true,.bool true,uD,uD,uD,uD,uD,uD,.bool true,.bool true,uD,uD,uD,uD,uD,uD,.bool true,.bool true,uD,uD,uD,uD,uD,uD,uD,uD,uD,uD,.bool true] ?_;refine b0C ?_;try simp only[sP,Act.put,lA,lB,lC]
   go_wp2;go_ret;exact⟨by rw[←HE.out];rfl,HX.out⟩
  | true =>
   rw[Bool.true_and] at HE;refine b0V 3 20 [.bool false,.bool false,.pointer (some ⟨G,3,none⟩)] ?_;refine b0R (some 23) _ (b0c (HK.out.cell (i:=3) (v:=.string xo) rfl)) ?_;refine b0P (some 24) (.int .i64 1) ?_;refine b0P (some 25) (.bool false) ?_;refine b0W (some 26) 100 #[.string xo,.bool false] (HN2.out _ HX.out) ?_;rintro r W3 ⟨rfl,hb⟩;replace HX:=Hi_ (HX.out.tr hb);replace HK:=Hi_ (HK.out.keep hb);clear hb;refine⟨_,rfl,?_⟩;cases b2 with
   | false =>
    rw[Bool.false_and] at HE;refine b0V 22 27 [.bool true,.bool true,.bool true,uD,uD,uD,uD,uD,uD,.bool true,.bool true,uD,uD,uD,uD,uD,uD,uD,uD,uD,uD,.bool true] ?_;refine b0C ?_;try simp only[sP,Act.put,lA,lB,lC]
    go_wp2;go_ret;exact⟨by rw[←HE.out];rfl,HX.out⟩
   | true =>
    rw[Bool.true_and] at HE;refine b0V 4 27 [.bool false,.bool false,.bool false,.pointer (some ⟨G,4,none⟩)] ?_;refine b0R (some 31) _ (b0B 49 (.tmp 30) rfl b2R G 4 (by kernel_rfl) [.int .i64 ik,.int .i64 ia,.int .i64 iN,.string is_,.slice Ai x.index.args.length ci] (b0b HK.out 4 rfl) rfl (by kernel_rfl)) ?_;refine b0P (some 32) (.int .i64 1) ?_;refine b0P (some 33) (.bool false) ?_;refine b0W (some 34) 101 #[.agg #[.int .i64 ik,.int .i64 ia,.int .i64 iN,.string is_,.slice Ai x.index.args.length ci],.bool false] (HI1.out _ HX.out) ?_;rintro r W3 ⟨rfl,hb⟩;replace HX:=Hi_ (HX.out.tr hb);replace HK:=Hi_ (HK.out.keep hb);clear hb;refine⟨_,rfl,?_⟩;cases b3 with
    | false =>
     rw[Bool.false_and] at HE;refine b0V 14 35 [.bool true,.bool true,.bool true,uD,uD,uD,uD,uD,uD,uD,uD,uD,uD,.bool true] ?_;refine b0C ?_;try simp only[sP,Act.put,lA,lB,lC]
     go_wp2;go_ret;exact⟨by rw[←HE.out];rfl,HX.out⟩
    | true =>
     rw[Bool.true_and] at HE;refine b0V 4 35 [.bool false,.bool false,.bool false,.pointer (some ⟨G,9,none⟩)] ?_;refine b0R (some 39) _ (b0B 49 (.tmp 38) rfl b2R G 9 (by kernel_rfl) [.int .i64 ek,.int .i64 ea,.int .i64 en,.string es,.slice Ae x.expr.args.length ce] (b0b HK.out 9 rfl) rfl (by kernel_rfl)) ?_;refine b0P (some 40) (.int .i64 1) ?_;refine b0V 3 41 [.bool true,.bool true,.int .i64 1] ?_;refine b0V 2 44 [.bool true,.bool true] ?_;refine b0W (some 46) 101 #[.agg #[.int .i64 ek,.int .i64 ea,.int .i64 en,.string es,.slice Ae x.expr.args.length ce],.bool true] (HE1.out _ HX.out) ?_;rintro r W3 ⟨rfl,hb⟩;replace HX:=Hi_ (HX.out.tr hb);replace HK:=Hi_ (HK.out.keep hb);clear hb;refine⟨_,rfl,?_⟩;cases b4 with
     | false =>
      rw[Bool.false_and] at HE;refine b0V 2 47 [.bool true,.bool true] ?_;refine b0C ?_;try simp only[sP,Act.put,lA,lB,lC]
      go_wp2;go_ret;exact⟨by rw[←HE.out];rfl,HX.out⟩
     | true =>
      rw[Bool.true_and] at HE;refine b0V 2 47 [.bool false,.bool false] ?_;refine b0C ?_;try simp only[sP,Act.put,lA,lB,lC]
      go_upto_region 7 with fail;refine b0E ?_;try dsimp only[List.append]
      refine b0P (some 49) (.int .i64 1) ?_;refine b0V 3 50 [.bool true,.bool true,.pointer (some ⟨G,14,none⟩)] ?_;refine b0R (some 53) _ (b1N (HK.out.cell (i:=14) (v:=.slice Aa x.args.length ca) rfl)) ?_;refine b0P (some 54) (.int .i64 x.args.length) ?_;by_cases hzA:x.args.length=0
      rotate_left
      ·have dzA:decide ((0:Int)<x.args.length)=true:=decide_eq_true (by omega);rw[decide_eq_false hzA,Bool.false_and] at HE;refine b0R (some 55) (.bool true) (b0f rfl (by kernel_rfl) (by kernel_rfl) dzA) ?_;refine b0V 21 56 [.bool true,.bool true,uD,uD,uD,uD,uD,uD,uD,uD,.bool true,.bool true,uD,uD,uD,uD,uD,uD,uD,uD,.bool true] ?_;refine b0C ?_;try simp only[sP,Act.put,lA,lB,lC]
       go_wp2;go_ret;exact⟨by rw[←HE.out];rfl,HX.out⟩
      have dzA:decide ((0:Int)<x.args.length)=false:=decide_eq_false (by omega);rw[decide_eq_true hzA,Bool.true_and] at HE;refine b0R (some 55) (.bool false) (b0f rfl (by kernel_rfl) (by kernel_rfl) dzA) ?_;refine b0V 6 56 [.bool false,.bool false,.bool false,.bool true,.bool true,.pointer (some ⟨G,15,none⟩)] ?_;refine b0R (some 62) _ (b1B (HK.out.cell (i:=15) (v:=.slice At x.thn.length ct) rfl)) ?_;refine b0P (some 63) (.int .i64 x.thn.length) ?_;by_cases hzT:x.thn.length=0
      rotate_left
      ·have dzT:decide ((0:Int)<x.thn.length)=true:=decide_eq_true (by omega);rw[decide_eq_false hzT,Bool.false_and] at HE;refine b0R (some 64) (.bool true) (b0f rfl (by kernel_rfl) (by kernel_rfl) dzT) ?_;refine b0V 12 65 [.bool true,.bool true,.bool true,uD,uD,uD,uD,uD,uD,uD,uD,.bool true] ?_;refine b0C ?_;try simp only[sP,Act.put,lA,lB,lC]
       go_wp2;go_ret;exact⟨by rw[←HE.out];rfl,HX.out⟩
      have dzT:decide ((0:Int)<x.thn.length)=false:=decide_eq_false (by omega);rw[decide_eq_true hzT,Bool.true_and] at HE;refine b0R (some 64) (.bool false) (b0f rfl (by kernel_rfl) (by kernel_rfl) dzT) ?_;refine b0V 4 65 [.bool false,.bool false,.bool false,.int .i64 1] ?_;refine b0V 3 69 [.bool true,.bool true,.pointer (some ⟨G,16,none⟩)] ?_;refine b0R (some 72) _ (b1B (HK.out.cell (i:=16) (v:=.slice Al x.els.length cl) rfl)) ?_;refine b0P (some 73) (.int .i64 x.els.length) ?_;by_cases hzE:x.els.length=0
      rotate_left
      ·have dzE:decide ((0:Int)<x.els.length)=true:=decide_eq_true (by omega);rw[decide_eq_false hzE,Bool.false_and] at HE;refine b0R (some 74) (.bool true) (b0f rfl (by kernel_rfl) (by kernel_rfl) dzE) ?_;refine b0V 2 75 [.bool true,.bool true] ?_;refine b0C ?_;try simp only[sP,Act.put,lA,lB,lC]
       go_wp2;go_ret;exact⟨by rw[←HE.out];rfl,HX.out⟩
      have dzE:decide ((0:Int)<x.els.length)=false:=decide_eq_false (by omega);rw[decide_eq_true hzE,Bool.true_and] at HE;refine b0R (some 74) (.bool false) (b0f rfl (by kernel_rfl) (by kernel_rfl) dzE) ?_;refine b0V 2 75 [.bool false,.bool false] ?_;refine b0C ?_;try simp only[sP,Act.put,lA,lB,lC]
      go_upto_region 9 with fail;refine b0E ?_;try dsimp only[List.append]
      refine b0P (some 77) (.pointer (some ⟨G,14,none⟩)) ?_;refine b0R (some 78) _ (b1N (HK.out.cell (i:=14) (v:=.slice Aa x.args.length ca) rfl)) ?_;refine b0W (some 79) 149 #[.slice Aa x.args.length ca,.func (.func 193) #[] #[]] (HA1.out _ HX.out) ?_;rintro r W3 ⟨rfl,hb⟩;replace HX:=Hi_ (HX.out.tr hb);replace HK:=Hi_ (HK.out.keep hb);clear hb;refine⟨_,rfl,?_⟩;cases bA with
      | false =>
       rw[Bool.false_and] at HE;refine b0V 11 80 [.bool false,.bool false,uD,uD,uD,.bool false,.bool false,uD,uD,uD,.bool false] ?_;refine b0P (some 2) (.bool false) ?_;refine b0C ?_;try simp only[sP,Act.put,lA,lB,lC]
       go_wp2;go_ret;exact⟨by rw[←HE.out];rfl,HX.out⟩
      | true =>
       rw[Bool.true_and] at HE;refine b0V 3 80 [.bool true,.bool true,.pointer (some ⟨G,15,none⟩)] ?_;refine b0R (some 83) _ (b1B (HK.out.cell (i:=15) (v:=.slice At x.thn.length ct) rfl)) ?_;refine b0W (some 84) 107 #[.slice At x.thn.length ct] (HT1.out _ HX.out) ?_;rintro r W3 ⟨rfl,hb⟩;replace HX:=Hi_ (HX.out.tr hb);replace HK:=Hi_ (HK.out.keep hb);clear hb;refine⟨_,rfl,?_⟩;cases bT with
       | false =>
        rw[Bool.false_and] at HE;refine b0V 6 85 [.bool false,.bool false,uD,uD,uD,.bool false] ?_;refine b0P (some 2) (.bool false) ?_;refine b0C ?_;try simp only[sP,Act.put,lA,lB,lC]
        go_wp2;go_ret;exact⟨by rw[←HE.out];rfl,HX.out⟩
       | true =>
        rw[Bool.true_and] at HE;refine b0V 3 85 [.bool true,.bool true,.pointer (some ⟨G,16,none⟩)] ?_;refine b0R (some 88) _ (b1B (HK.out.cell (i:=16) (v:=.slice Al x.els.length cl) rfl)) ?_;refine b0W (some 89) 107 #[.slice Al x.els.length cl] (HL1.out _ HX.out) ?_;rintro r W3 ⟨rfl,hb⟩;replace HX:=Hi_ (HX.out.tr hb);replace HK:=Hi_ (HK.out.keep hb);clear hb;refine⟨_,rfl,?_⟩;cases bE with
        | false =>
         refine b0P (some 90) (.bool false) ?_;refine b0P (some 2) (.bool false) ?_;refine b0C ?_;try simp only[sP,Act.put,lA,lB,lC]
         go_wp2;go_ret;exact⟨by rw[←HE.out];rfl,HX.out⟩
        | true =>
         refine b0P (some 90) (.bool true) ?_;refine b0P (some 2) (.bool true) ?_;refine b0C ?_;try simp only[sP,Act.put,lA,lB,lC]
         go_wp2;go_ret;exact⟨by rw[←HE.out];rfl,HX.out⟩
 ·have HE:Hid ((b0y x.name true && (b0y x.other false && (b3H x.index true && (b3H x.expr true && (decide (x.args.length=0) && (decide (x.thn.length=0) && (decide (x.els.length=0) && (x.args.all TE.ok && (b1l x.thn && b1l x.els)))))))))=x.ok):=Hi_ (by rw[TC.ok_prog,hk];rfl);replace HN1:=Hi_ (fun W (hb:Bel w W)=>HN1.out true W);replace HN2:=Hi_ (fun W (hb:Bel w W)=>HN2.out false W);replace HI1:=Hi_ (HI1.out true);replace HE1:=Hi_ (HE1.out true);clear HOK;rw[hk] at HK HX ⊢;clear hk;generalize x.ok=T at *;generalize b0y x.name true=b1 at *;generalize b0y x.other false=b2 at *;generalize b3H x.index true=b3 at *;generalize b3H x.expr true=b4 at *;generalize x.args.all TE.ok=bA at *;generalize b1l x.thn=bT at *;generalize b1l x.els=bE at *;generalize x.at_=xa at *;generalize x.name=xn at *;generalize x.other=xo at *;generalize x.index.kind=ik at *;generalize x.index.at_=ia at *;generalize x.index.n=iN at *;generalize x.index.name=is_ at *;generalize x.expr.kind=ek at *;generalize x.expr.at_=ea at *;generalize x.expr.n=en at *;generalize x.expr.name=es at *;go_enter Tryz.func159,Tryz.ntmps159;go_upto_region 1 with fail;generalize w.alloc (.cells #[.int .i64 2,.int .i64 xa,.string xn,.string xo,.int .i64 ik,.int .i64 ia,.int .i64 iN,.string is_,.slice Ai x.index.args.length ci,.int .i64 ek,.int .i64 ea,.int .i64 en,.string es,.slice Ae x.expr.args.length ce,.slice Aa x.args.length ca,.slice At x.thn.length ct,.slice Al x.els.length cl] 53)=W0 at *;generalize w.heap.size=G at *;have c0:=HK.out.cell (i:=0) (v:=.int .i64 2) rfl;go_upto_region 5 with fail;clear c0;refine b0E ?_;try dsimp only[List.append]
  refine b0P (some 15) (.pointer (some ⟨G,2,none⟩)) ?_;refine b0R (some 16) _ (b0c (HK.out.cell (i:=2) (v:=.string xn) rfl)) ?_;refine b0P (some 17) (.int .i64 2) ?_;refine b0P (some 18) (.bool true) ?_;refine b0W (some 19) 100 #[.string xn,.bool true] (HN1.out _ HX.out) ?_;rintro r W3 ⟨rfl,hb⟩;replace HX:=Hi_ (HX.out.tr hb);replace HK:=Hi_ (HK.out.keep hb);clear hb;refine⟨_,rfl,?_⟩;cases b1 with
  | false =>
   rw[Bool.false_and] at HE;refine b0V 29 20 [.bool true,.bool true,uD,uD,uD,uD,uD,uD,.bool true,.bool true,uD,uD,uD,uD,uD,uD,.bool true,.bool true,uD,uD,uD,uD,uD,uD,uD,uD,uD,uD,.bool true] ?_;refine b0C ?_;try simp only[sP,Act.put,lA,lB,lC]
   go_wp2;go_ret;exact⟨by rw[←HE.out];rfl,HX.out⟩
  | true =>
   rw[Bool.true_and] at HE;refine b0V 3 20 [.bool false,.bool false,.pointer (some ⟨G,3,none⟩)] ?_;refine b0R (some 23) _ (b0c (HK.out.cell (i:=3) (v:=.string xo) rfl)) ?_;refine b0P (some 24) (.int .i64 2) ?_;refine b0P (some 25) (.bool false) ?_;refine b0W (some 26) 100 #[.string xo,.bool false] (HN2.out _ HX.out) ?_;rintro r W3 ⟨rfl,hb⟩;replace HX:=Hi_ (HX.out.tr hb);replace HK:=Hi_ (HK.out.keep hb);clear hb;refine⟨_,rfl,?_⟩;cases b2 with
   | false =>
    rw[Bool.false_and] at HE;refine b0V 22 27 [.bool true,.bool true,.bool true,uD,uD,uD,uD,uD,uD,.bool true,.bool true,uD,uD,uD,uD,uD,uD,uD,uD,uD,uD,.bool true] ?_;refine b0C ?_;try simp only[sP,Act.put,lA,lB,lC]
    go_wp2;go_ret;exact⟨by rw[←HE.out];rfl,HX.out⟩
   | true =>
    rw[Bool.true_and] at HE;refine b0V 4 27 [.bool false,.bool false,.bool false,.pointer (some ⟨G,4,none⟩)] ?_;refine b0R (some 31) _ (b0B 49 (.tmp 30) rfl b2R G 4 (by kernel_rfl) [.int .i64 ik,.int .i64 ia,.int .i64 iN,.string is_,.slice Ai x.index.args.length ci] (b0b HK.out 4 rfl) rfl (by kernel_rfl)) ?_;refine b0P (some 32) (.int .i64 2) ?_;refine b0P (some 33) (.bool true) ?_;refine b0W (some 34) 101 #[.agg #[.int .i64 ik,.int .i64 ia,.int .i64 iN,.string is_,.slice Ai x.index.args.length ci],.bool true] (HI1.out _ HX.out) ?_;rintro r W3 ⟨rfl,hb⟩;replace HX:=Hi_ (HX.out.tr hb);replace HK:=Hi_ (HK.out.keep hb);clear hb;refine⟨_,rfl,?_⟩;cases b3 with
    | false =>
     rw[Bool.false_and] at HE;refine b0V 14 35 [.bool true,.bool true,.bool true,uD,uD,uD,uD,uD,uD,uD,uD,uD,uD,.bool true] ?_;refine b0C ?_;try simp only[sP,Act.put,lA,lB,lC]
     go_wp2;go_ret;exact⟨by rw[←HE.out];rfl,HX.out⟩
    | true =>
     rw[Bool.true_and] at HE;refine b0V 4 35 [.bool false,.bool false,.bool false,.pointer (some ⟨G,9,none⟩)] ?_;refine b0R (some 39) _ (b0B 49 (.tmp 38) rfl b2R G 9 (by kernel_rfl) [.int .i64 ek,.int .i64 ea,.int .i64 en,.string es,.slice Ae x.expr.args.length ce] (b0b HK.out 9 rfl) rfl (by kernel_rfl)) ?_;refine b0P (some 40) (.int .i64 2) ?_;refine b0V 3 41 [.bool true,.bool true,.int .i64 2] ?_;refine b0V 2 44 [.bool true,.bool true] ?_;refine b0W (some 46) 101 #[.agg #[.int .i64 ek,.int .i64 ea,.int .i64 en,.string es,.slice Ae x.expr.args.length ce],.bool true] (HE1.out _ HX.out) ?_;rintro r W3 ⟨rfl,hb⟩;replace HX:=Hi_ (HX.out.tr hb);replace HK:=Hi_ (HK.out.keep hb);clear hb;refine⟨_,rfl,?_⟩;cases b4 with
     | false =>
      rw[Bool.false_and] at HE;refine b0V 2 47 [.bool true,.bool true] ?_;refine b0C ?_;try simp only[sP,Act.put,lA,lB,lC]
      go_wp2;go_ret;exact⟨by rw[←HE.out];rfl,HX.out⟩
     | true =>
      rw[Bool.true_and] at HE;refine b0V 2 47 [.bool false,.bool false] ?_;refine b0C ?_;try simp only[sP,Act.put,lA,lB,lC]
      go_upto_region 7 with fail;refine b0E ?_;try dsimp only[List.append]
      refine b0P (some 49) (.int .i64 2) ?_;refine b0V 3 50 [.bool true,.bool true,.pointer (some ⟨G,14,none⟩)] ?_;refine b0R (some 53) _ (b1N (HK.out.cell (i:=14) (v:=.slice Aa x.args.length ca) rfl)) ?_;refine b0P (some 54) (.int .i64 x.args.length) ?_;by_cases hzA:x.args.length=0
      rotate_left
      ·have dzA:decide ((0:Int)<x.args.length)=true:=decide_eq_true (by omega);rw[decide_eq_false hzA,Bool.false_and] at HE;refine b0R (some 55) (.bool true) (b0f rfl (by kernel_rfl) (by kernel_rfl) dzA) ?_;refine b0V 21 56 [.bool true,.bool true,uD,uD,uD,uD,uD,uD,uD,uD,.bool true,.bool true,uD,uD,uD,uD,uD,uD,uD,uD,.bool true] ?_;refine b0C ?_;try simp only[sP,Act.put,lA,lB,lC]
       go_wp2;go_ret;exact⟨by rw[←HE.out];rfl,HX.out⟩
      have dzA:decide ((0:Int)<x.args.length)=false:=decide_eq_false (by omega);rw[decide_eq_true hzA,Bool.true_and] at HE;refine b0R (some 55) (.bool false) (b0f rfl (by kernel_rfl) (by kernel_rfl) dzA) ?_;refine b0V 6 56 [.bool false,.bool false,.bool false,.bool true,.bool true,.pointer (some ⟨G,15,none⟩)] ?_;refine b0R (some 62) _ (b1B (HK.out.cell (i:=15) (v:=.slice At x.thn.length ct) rfl)) ?_;refine b0P (some 63) (.int .i64 x.thn.length) ?_;by_cases hzT:x.thn.length=0
      rotate_left
      ·have dzT:decide ((0:Int)<x.thn.length)=true:=decide_eq_true (by omega);rw[decide_eq_false hzT,Bool.false_and] at HE;refine b0R (some 64) (.bool true) (b0f rfl (by kernel_rfl) (by kernel_rfl) dzT) ?_;refine b0V 12 65 [.bool true,.bool true,.bool true,uD,uD,uD,uD,uD,uD,uD,uD,.bool true] ?_;refine b0C ?_;try simp only[sP,Act.put,lA,lB,lC]
       go_wp2;go_ret;exact⟨by rw[←HE.out];rfl,HX.out⟩
      have dzT:decide ((0:Int)<x.thn.length)=false:=decide_eq_false (by omega);rw[decide_eq_true hzT,Bool.true_and] at HE;refine b0R (some 64) (.bool false) (b0f rfl (by kernel_rfl) (by kernel_rfl) dzT) ?_;refine b0V 4 65 [.bool false,.bool false,.bool false,.int .i64 2] ?_;refine b0V 3 69 [.bool true,.bool true,.pointer (some ⟨G,16,none⟩)] ?_;refine b0R (some 72) _ (b1B (HK.out.cell (i:=16) (v:=.slice Al x.els.length cl) rfl)) ?_;refine b0P (some 73) (.int .i64 x.els.length) ?_;by_cases hzE:x.els.length=0
      rotate_left
      ·have dzE:decide ((0:Int)<x.els.length)=true:=decide_eq_true (by omega);rw[decide_eq_false hzE,Bool.false_and] at HE;refine b0R (some 74) (.bool true) (b0f rfl (by kernel_rfl) (by kernel_rfl) dzE) ?_;refine b0V 2 75 [.bool true,.bool true] ?_;refine b0C ?_;try simp only[sP,Act.put,lA,lB,lC]
       go_wp2;go_ret;exact⟨by rw[←HE.out];rfl,HX.out⟩
      have dzE:decide ((0:Int)<x.els.length)=false:=decide_eq_false (by omega);rw[decide_eq_true hzE,Bool.true_and] at HE;refine b0R (some 74) (.bool false) (b0f rfl (by kernel_rfl) (by kernel_rfl) dzE) ?_;refine b0V 2 75 [.bool false,.bool false] ?_;refine b0C ?_;try simp only[sP,Act.put,lA,lB,lC]
      go_upto_region 9 with fail;refine b0E ?_;try dsimp only[List.append]
      refine b0P (some 77) (.pointer (some ⟨G,14,none⟩)) ?_;refine b0R (some 78) _ (b1N (HK.out.cell (i:=14) (v:=.slice Aa x.args.length ca) rfl)) ?_;refine b0W (some 79) 149 #[.slice Aa x.args.length ca,.func (.func 193) #[] #[]] (HA1.out _ HX.out) ?_;rintro r W3 ⟨rfl,hb⟩;replace HX:=Hi_ (HX.out.tr hb);replace HK:=Hi_ (HK.out.keep hb);clear hb;refine⟨_,rfl,?_⟩;cases bA with
      | false =>
       rw[Bool.false_and] at HE;refine b0V 11 80 [.bool false,.bool false,uD,uD,uD,.bool false,.bool false,uD,uD,uD,.bool false] ?_;refine b0P (some 2) (.bool false) ?_;refine b0C ?_;try simp only[sP,Act.put,lA,lB,lC]
       go_wp2;go_ret;exact⟨by rw[←HE.out];rfl,HX.out⟩
      | true =>
       rw[Bool.true_and] at HE;refine b0V 3 80 [.bool true,.bool true,.pointer (some ⟨G,15,none⟩)] ?_;refine b0R (some 83) _ (b1B (HK.out.cell (i:=15) (v:=.slice At x.thn.length ct) rfl)) ?_;refine b0W (some 84) 107 #[.slice At x.thn.length ct] (HT1.out _ HX.out) ?_;rintro r W3 ⟨rfl,hb⟩;replace HX:=Hi_ (HX.out.tr hb);replace HK:=Hi_ (HK.out.keep hb);clear hb;refine⟨_,rfl,?_⟩;cases bT with
       | false =>
        rw[Bool.false_and] at HE;refine b0V 6 85 [.bool false,.bool false,uD,uD,uD,.bool false] ?_;refine b0P (some 2) (.bool false) ?_;refine b0C ?_;try simp only[sP,Act.put,lA,lB,lC]
        go_wp2;go_ret;exact⟨by rw[←HE.out];rfl,HX.out⟩
       | true =>
        rw[Bool.true_and] at HE;refine b0V 3 85 [.bool true,.bool true,.pointer (some ⟨G,16,none⟩)] ?_;refine b0R (some 88) _ (b1B (HK.out.cell (i:=16) (v:=.slice Al x.els.length cl) rfl)) ?_;refine b0W (some 89) 107 #[.slice Al x.els.length cl] (HL1.out _ HX.out) ?_;rintro r W3 ⟨rfl,hb⟩;replace HX:=Hi_ (HX.out.tr hb);replace HK:=Hi_ (HK.out.keep hb);clear hb;refine⟨_,rfl,?_⟩;cases bE with
        | false =>
         refine b0P (some 90) (.bool false) ?_;refine b0P (some 2) (.bool false) ?_;refine b0C ?_;try simp only[sP,Act.put,lA,lB,lC]
         go_wp2;go_ret;exact⟨by rw[←HE.out];rfl,HX.out⟩
        | true =>
         refine b0P (some 90) (.bool true) ?_;refine b0P (some 2) (.bool true) ?_;refine b0C ?_;try simp only[sP,Act.put,lA,lB,lC]
         go_wp2;go_ret;exact⟨by rw[←HE.out];rfl,HX.out⟩
 ·have HE:Hid ((b0y x.name true && (b0y x.other true && (b3H x.index false && (b3H x.expr false && (decide (x.thn.length=0) && (decide (x.els.length=0) && (x.args.all TE.ok && (b1l x.thn && b1l x.els))))))))=x.ok):=Hi_ (by rw[TC.ok_prog,hk];rfl);replace HN1:=Hi_ (fun W (hb:Bel w W)=>HN1.out true W);replace HN2:=Hi_ (fun W (hb:Bel w W)=>HN2.out true W);replace HI1:=Hi_ (HI1.out false);replace HE1:=Hi_ (HE1.out false);clear HOK;rw[hk] at HK HX ⊢;clear hk;generalize x.ok=T at *;generalize b0y x.name true=b1 at *;generalize b0y x.other true=b2 at *;generalize b3H x.index false=b3 at *;generalize b3H x.expr false=b4 at *;generalize x.args.all TE.ok=bA at *;generalize b1l x.thn=bT at *;generalize b1l x.els=bE at *;generalize x.at_=xa at *;generalize x.name=xn at *;generalize x.other=xo at *;generalize x.index.kind=ik at *;generalize x.index.at_=ia at *;generalize x.index.n=iN at *;generalize x.index.name=is_ at *;generalize x.expr.kind=ek at *;generalize x.expr.at_=ea at *;generalize x.expr.n=en at *;generalize x.expr.name=es at *;go_enter Tryz.func159,Tryz.ntmps159;go_upto_region 1 with fail;generalize w.alloc (.cells #[.int .i64 3,.int .i64 xa,.string xn,.string xo,.int .i64 ik,.int .i64 ia,.int .i64 iN,.string is_,.slice Ai x.index.args.length ci,.int .i64 ek,.int .i64 ea,.int .i64 en,.string es,.slice Ae x.expr.args.length ce,.slice Aa x.args.length ca,.slice At x.thn.length ct,.slice Al x.els.length cl] 53)=W0 at *;generalize w.heap.size=G at *;have c0:=HK.out.cell (i:=0) (v:=.int .i64 3) rfl;go_upto_region 5 with fail;clear c0;refine b0E ?_;try dsimp only[List.append]
  refine b0P (some 15) (.pointer (some ⟨G,2,none⟩)) ?_;refine b0R (some 16) _ (b0c (HK.out.cell (i:=2) (v:=.string xn) rfl)) ?_;refine b0P (some 17) (.int .i64 3) ?_;refine b0P (some 18) (.bool true) ?_;refine b0W (some 19) 100 #[.string xn,.bool true] (HN1.out _ HX.out) ?_;rintro r W3 ⟨rfl,hb⟩;replace HX:=Hi_ (HX.out.tr hb);replace HK:=Hi_ (HK.out.keep hb);clear hb;refine⟨_,rfl,?_⟩;cases b1 with
  | false =>
   rw[Bool.false_and] at HE;refine b0V 29 20 [.bool true,.bool true,uD,uD,uD,uD,uD,uD,.bool true,.bool true,uD,uD,uD,uD,uD,uD,.bool true,.bool true,uD,uD,uD,uD,uD,uD,uD,uD,uD,uD,.bool true] ?_;refine b0C ?_;try simp only[sP,Act.put,lA,lB,lC]
   go_wp2;go_ret;exact⟨by rw[←HE.out];rfl,HX.out⟩
  | true =>
   rw[Bool.true_and] at HE;refine b0V 3 20 [.bool false,.bool false,.pointer (some ⟨G,3,none⟩)] ?_;refine b0R (some 23) _ (b0c (HK.out.cell (i:=3) (v:=.string xo) rfl)) ?_;refine b0P (some 24) (.int .i64 3) ?_;refine b0P (some 25) (.bool true) ?_;refine b0W (some 26) 100 #[.string xo,.bool true] (HN2.out _ HX.out) ?_;rintro r W3 ⟨rfl,hb⟩;replace HX:=Hi_ (HX.out.tr hb);replace HK:=Hi_ (HK.out.keep hb);clear hb;refine⟨_,rfl,?_⟩;cases b2 with
   | false =>
    rw[Bool.false_and] at HE;refine b0V 22 27 [.bool true,.bool true,.bool true,uD,uD,uD,uD,uD,uD,.bool true,.bool true,uD,uD,uD,uD,uD,uD,uD,uD,uD,uD,.bool true] ?_;refine b0C ?_;try simp only[sP,Act.put,lA,lB,lC]
    go_wp2;go_ret;exact⟨by rw[←HE.out];rfl,HX.out⟩
   | true =>
    rw[Bool.true_and] at HE;refine b0V 4 27 [.bool false,.bool false,.bool false,.pointer (some ⟨G,4,none⟩)] ?_;refine b0R (some 31) _ (b0B 49 (.tmp 30) rfl b2R G 4 (by kernel_rfl) [.int .i64 ik,.int .i64 ia,.int .i64 iN,.string is_,.slice Ai x.index.args.length ci] (b0b HK.out 4 rfl) rfl (by kernel_rfl)) ?_;refine b0P (some 32) (.int .i64 3) ?_;refine b0P (some 33) (.bool false) ?_;refine b0W (some 34) 101 #[.agg #[.int .i64 ik,.int .i64 ia,.int .i64 iN,.string is_,.slice Ai x.index.args.length ci],.bool false] (HI1.out _ HX.out) ?_;rintro r W3 ⟨rfl,hb⟩;replace HX:=Hi_ (HX.out.tr hb);replace HK:=Hi_ (HK.out.keep hb);clear hb;refine⟨_,rfl,?_⟩;cases b3 with
    | false =>
     rw[Bool.false_and] at HE;refine b0V 14 35 [.bool true,.bool true,.bool true,uD,uD,uD,uD,uD,uD,uD,uD,uD,uD,.bool true] ?_;refine b0C ?_;try simp only[sP,Act.put,lA,lB,lC]
     go_wp2;go_ret;exact⟨by rw[←HE.out];rfl,HX.out⟩
    | true =>
     rw[Bool.true_and] at HE;refine b0V 4 35 [.bool false,.bool false,.bool false,.pointer (some ⟨G,9,none⟩)] ?_;refine b0R (some 39) _ (b0B 49 (.tmp 38) rfl b2R G 9 (by kernel_rfl) [.int .i64 ek,.int .i64 ea,.int .i64 en,.string es,.slice Ae x.expr.args.length ce] (b0b HK.out 9 rfl) rfl (by kernel_rfl)) ?_;refine b0P (some 40) (.int .i64 3) ?_;refine b0V 5 41 [.bool false,.bool false,uD,uD,.bool false] ?_;refine b0W (some 46) 101 #[.agg #[.int .i64 ek,.int .i64 ea,.int .i64 en,.string es,.slice Ae x.expr.args.length ce],.bool false] (HE1.out _ HX.out) ?_;rintro r W3 ⟨rfl,hb⟩;replace HX:=Hi_ (HX.out.tr hb);replace HK:=Hi_ (HK.out.keep hb);clear hb;refine⟨_,rfl,?_⟩;cases b4 with
     | false =>
      rw[Bool.false_and] at HE;refine b0V 2 47 [.bool true,.bool true] ?_;refine b0C ?_;try simp only[sP,Act.put,lA,lB,lC]
      go_wp2;go_ret;exact⟨by rw[←HE.out];rfl,HX.out⟩
     | true =>
      rw[Bool.true_and] at HE;refine b0V 2 47 [.bool false,.bool false] ?_;refine b0C ?_;try simp only[sP,Act.put,lA,lB,lC]
      go_upto_region 7 with fail;refine b0E ?_;try dsimp only[List.append]
      refine b0P (some 49) (.int .i64 3) ?_;refine b0V 12 50 [.bool false,.bool false,uD,uD,uD,uD,.bool false,.bool false,.bool false,.bool true,.bool true,.pointer (some ⟨G,15,none⟩)] ?_;refine b0R (some 62) _ (b1B (HK.out.cell (i:=15) (v:=.slice At x.thn.length ct) rfl)) ?_;refine b0P (some 63) (.int .i64 x.thn.length) ?_;by_cases hzT:x.thn.length=0
      rotate_left
      ·have dzT:decide ((0:Int)<x.thn.length)=true:=decide_eq_true (by omega);rw[decide_eq_false hzT,Bool.false_and] at HE;refine b0R (some 64) (.bool true) (b0f rfl (by kernel_rfl) (by kernel_rfl) dzT) ?_;refine b0V 12 65 [.bool true,.bool true,.bool true,uD,uD,uD,uD,uD,uD,uD,uD,.bool true] ?_;refine b0C ?_;try simp only[sP,Act.put,lA,lB,lC]
       go_wp2;go_ret;exact⟨by rw[←HE.out];rfl,HX.out⟩
      have dzT:decide ((0:Int)<x.thn.length)=false:=decide_eq_false (by omega);rw[decide_eq_true hzT,Bool.true_and] at HE;refine b0R (some 64) (.bool false) (b0f rfl (by kernel_rfl) (by kernel_rfl) dzT) ?_;refine b0V 4 65 [.bool false,.bool false,.bool false,.int .i64 3] ?_;refine b0V 3 69 [.bool true,.bool true,.pointer (some ⟨G,16,none⟩)] ?_;refine b0R (some 72) _ (b1B (HK.out.cell (i:=16) (v:=.slice Al x.els.length cl) rfl)) ?_;refine b0P (some 73) (.int .i64 x.els.length) ?_;by_cases hzE:x.els.length=0
      rotate_left
      ·have dzE:decide ((0:Int)<x.els.length)=true:=decide_eq_true (by omega);rw[decide_eq_false hzE,Bool.false_and] at HE;refine b0R (some 74) (.bool true) (b0f rfl (by kernel_rfl) (by kernel_rfl) dzE) ?_;refine b0V 2 75 [.bool true,.bool true] ?_;refine b0C ?_;try simp only[sP,Act.put,lA,lB,lC]
       go_wp2;go_ret;exact⟨by rw[←HE.out];rfl,HX.out⟩
      have dzE:decide ((0:Int)<x.els.length)=false:=decide_eq_false (by omega);rw[decide_eq_true hzE,Bool.true_and] at HE;refine b0R (some 74) (.bool false) (b0f rfl (by kernel_rfl) (by kernel_rfl) dzE) ?_;refine b0V 2 75 [.bool false,.bool false] ?_;refine b0C ?_;try simp only[sP,Act.put,lA,lB,lC]
      go_upto_region 9 with fail;refine b0E ?_;try dsimp only[List.append]
      refine b0P (some 77) (.pointer (some ⟨G,14,none⟩)) ?_;refine b0R (some 78) _ (b1N (HK.out.cell (i:=14) (v:=.slice Aa x.args.length ca) rfl)) ?_;refine b0W (some 79) 149 #[.slice Aa x.args.length ca,.func (.func 193) #[] #[]] (HA1.out _ HX.out) ?_;rintro r W3 ⟨rfl,hb⟩;replace HX:=Hi_ (HX.out.tr hb);replace HK:=Hi_ (HK.out.keep hb);clear hb;refine⟨_,rfl,?_⟩;cases bA with
      | false =>
       rw[Bool.false_and] at HE;refine b0V 11 80 [.bool false,.bool false,uD,uD,uD,.bool false,.bool false,uD,uD,uD,.bool false] ?_;refine b0P (some 2) (.bool false) ?_;refine b0C ?_;try simp only[sP,Act.put,lA,lB,lC]
       go_wp2;go_ret;exact⟨by rw[←HE.out];rfl,HX.out⟩
      | true =>
       rw[Bool.true_and] at HE;refine b0V 3 80 [.bool true,.bool true,.pointer (some ⟨G,15,none⟩)] ?_;refine b0R (some 83) _ (b1B (HK.out.cell (i:=15) (v:=.slice At x.thn.length ct) rfl)) ?_;refine b0W (some 84) 107 #[.slice At x.thn.length ct] (HT1.out _ HX.out) ?_;rintro r W3 ⟨rfl,hb⟩;replace HX:=Hi_ (HX.out.tr hb);replace HK:=Hi_ (HK.out.keep hb);clear hb;refine⟨_,rfl,?_⟩;cases bT with
       | false =>
        rw[Bool.false_and] at HE;refine b0V 6 85 [.bool false,.bool false,uD,uD,uD,.bool false] ?_;refine b0P (some 2) (.bool false) ?_;refine b0C ?_;try simp only[sP,Act.put,lA,lB,lC]
        go_wp2;go_ret;exact⟨by rw[←HE.out];rfl,HX.out⟩
       | true =>
        rw[Bool.true_and] at HE;refine b0V 3 85 [.bool true,.bool true,.pointer (some ⟨G,16,none⟩)] ?_;refine b0R (some 88) _ (b1B (HK.out.cell (i:=16) (v:=.slice Al x.els.length cl) rfl)) ?_;refine b0W (some 89) 107 #[.slice Al x.els.length cl] (HL1.out _ HX.out) ?_;rintro r W3 ⟨rfl,hb⟩;replace HX:=Hi_ (HX.out.tr hb);replace HK:=Hi_ (HK.out.keep hb);clear hb;refine⟨_,rfl,?_⟩;cases bE with
        | false =>
         refine b0P (some 90) (.bool false) ?_;refine b0P (some 2) (.bool false) ?_;refine b0C ?_;try simp only[sP,Act.put,lA,lB,lC]
         go_wp2;go_ret;exact⟨by rw[←HE.out];rfl,HX.out⟩
        | true =>
         refine b0P (some 90) (.bool true) ?_;refine b0P (some 2) (.bool true) ?_;refine b0C ?_;try simp only[sP,Act.put,lA,lB,lC]
         go_wp2;go_ret;exact⟨by rw[←HE.out];rfl,HX.out⟩
 ·have HE:Hid ((b0y x.name true && (b0y x.other false && (b3H x.index false && (b3H x.expr false && (decide (x.args.length=0) && (decide (x.thn.length=0) && (decide (x.els.length=0) && (x.args.all TE.ok && (b1l x.thn && b1l x.els)))))))))=x.ok):=Hi_ (by rw[TC.ok_prog,hk];rfl);replace HN1:=Hi_ (fun W (hb:Bel w W)=>HN1.out true W);replace HN2:=Hi_ (fun W (hb:Bel w W)=>HN2.out false W);replace HI1:=Hi_ (HI1.out false);replace HE1:=Hi_ (HE1.out false);clear HOK;rw[hk] at HK HX ⊢;clear hk;generalize x.ok=T at *;generalize b0y x.name true=b1 at *;generalize b0y x.other false=b2 at *;generalize b3H x.index false=b3 at *;generalize b3H x.expr false=b4 at *;generalize x.args.all TE.ok=bA at *;generalize b1l x.thn=bT at *;generalize b1l x.els=bE at *;generalize x.at_=xa at *;generalize x.name=xn at *;generalize x.other=xo at *;generalize x.index.kind=ik at *;generalize x.index.at_=ia at *;generalize x.index.n=iN at *;generalize x.index.name=is_ at *;generalize x.expr.kind=ek at *;generalize x.expr.at_=ea at *;generalize x.expr.n=en at *;generalize x.expr.name=es at *;go_enter Tryz.func159,Tryz.ntmps159;go_upto_region 1 with fail;generalize w.alloc (.cells #[.int .i64 4,.int .i64 xa,.string xn,.string xo,.int .i64 ik,.int .i64 ia,.int .i64 iN,.string is_,.slice Ai x.index.args.length ci,.int .i64 ek,.int .i64 ea,.int .i64 en,.string es,.slice Ae x.expr.args.length ce,.slice Aa x.args.length ca,.slice At x.thn.length ct,.slice Al x.els.length cl] 53)=W0 at *;generalize w.heap.size=G at *;have c0:=HK.out.cell (i:=0) (v:=.int .i64 4) rfl;go_upto_region 5 with fail;clear c0;refine b0E ?_;try dsimp only[List.append]
  refine b0P (some 15) (.pointer (some ⟨G,2,none⟩)) ?_;refine b0R (some 16) _ (b0c (HK.out.cell (i:=2) (v:=.string xn) rfl)) ?_;refine b0P (some 17) (.int .i64 4) ?_;refine b0P (some 18) (.bool true) ?_;refine b0W (some 19) 100 #[.string xn,.bool true] (HN1.out _ HX.out) ?_;rintro r W3 ⟨rfl,hb⟩;replace HX:=Hi_ (HX.out.tr hb);replace HK:=Hi_ (HK.out.keep hb);clear hb;refine⟨_,rfl,?_⟩;cases b1 with
  | false =>
   rw[Bool.false_and] at HE;refine b0V 29 20 [.bool true,.bool true,uD,uD,uD,uD,uD,uD,.bool true,.bool true,uD,uD,uD,uD,uD,uD,.bool true,.bool true,uD,uD,uD,uD,uD,uD,uD,uD,uD,uD,.bool true] ?_;refine b0C ?_;try simp only[sP,Act.put,lA,lB,lC]
   go_wp2;go_ret;exact⟨by rw[←HE.out];rfl,HX.out⟩
  | true =>
   rw[Bool.true_and] at HE;refine b0V 3 20 [.bool false,.bool false,.pointer (some ⟨G,3,none⟩)] ?_;refine b0R (some 23) _ (b0c (HK.out.cell (i:=3) (v:=.string xo) rfl)) ?_;refine b0P (some 24) (.int .i64 4) ?_;refine b0P (some 25) (.bool false) ?_;refine b0W (some 26) 100 #[.string xo,.bool false] (HN2.out _ HX.out) ?_;rintro r W3 ⟨rfl,hb⟩;replace HX:=Hi_ (HX.out.tr hb);replace HK:=Hi_ (HK.out.keep hb);clear hb;refine⟨_,rfl,?_⟩;cases b2 with
   | false =>
    rw[Bool.false_and] at HE;refine b0V 22 27 [.bool true,.bool true,.bool true,uD,uD,uD,uD,uD,uD,.bool true,.bool true,uD,uD,uD,uD,uD,uD,uD,uD,uD,uD,.bool true] ?_;refine b0C ?_;try simp only[sP,Act.put,lA,lB,lC]
    go_wp2;go_ret;exact⟨by rw[←HE.out];rfl,HX.out⟩
   | true =>
    rw[Bool.true_and] at HE;refine b0V 4 27 [.bool false,.bool false,.bool false,.pointer (some ⟨G,4,none⟩)] ?_;refine b0R (some 31) _ (b0B 49 (.tmp 30) rfl b2R G 4 (by kernel_rfl) [.int .i64 ik,.int .i64 ia,.int .i64 iN,.string is_,.slice Ai x.index.args.length ci] (b0b HK.out 4 rfl) rfl (by kernel_rfl)) ?_;refine b0P (some 32) (.int .i64 4) ?_;refine b0P (some 33) (.bool false) ?_;refine b0W (some 34) 101 #[.agg #[.int .i64 ik,.int .i64 ia,.int .i64 iN,.string is_,.slice Ai x.index.args.length ci],.bool false] (HI1.out _ HX.out) ?_;rintro r W3 ⟨rfl,hb⟩;replace HX:=Hi_ (HX.out.tr hb);replace HK:=Hi_ (HK.out.keep hb);clear hb;refine⟨_,rfl,?_⟩;cases b3 with
    | false =>
     rw[Bool.false_and] at HE;refine b0V 14 35 [.bool true,.bool true,.bool true,uD,uD,uD,uD,uD,uD,uD,uD,uD,uD,.bool true] ?_;refine b0C ?_;try simp only[sP,Act.put,lA,lB,lC]
     go_wp2;go_ret;exact⟨by rw[←HE.out];rfl,HX.out⟩
    | true =>
     rw[Bool.true_and] at HE;refine b0V 4 35 [.bool false,.bool false,.bool false,.pointer (some ⟨G,9,none⟩)] ?_;refine b0R (some 39) _ (b0B 49 (.tmp 38) rfl b2R G 9 (by kernel_rfl) [.int .i64 ek,.int .i64 ea,.int .i64 en,.string es,.slice Ae x.expr.args.length ce] (b0b HK.out 9 rfl) rfl (by kernel_rfl)) ?_;refine b0P (some 40) (.int .i64 4) ?_;refine b0V 3 41 [.bool true,.bool true,.int .i64 4] ?_;refine b0V 2 44 [.bool false,.bool false] ?_;refine b0W (some 46) 101 #[.agg #[.int .i64 ek,.int .i64 ea,.int .i64 en,.string es,.slice Ae x.expr.args.length ce],.bool false] (HE1.out _ HX.out) ?_;rintro r W3 ⟨rfl,hb⟩;replace HX:=Hi_ (HX.out.tr hb);replace HK:=Hi_ (HK.out.keep hb);clear hb;refine⟨_,rfl,?_⟩;cases b4 with
     | false =>
      rw[Bool.false_and] at HE;refine b0V 2 47 [.bool true,.bool true] ?_;refine b0C ?_;try simp only[sP,Act.put,lA,lB,lC]
      go_wp2;go_ret;exact⟨by rw[←HE.out];rfl,HX.out⟩
     | true =>
      rw[Bool.true_and] at HE;refine b0V 2 47 [.bool false,.bool false] ?_;refine b0C ?_;try simp only[sP,Act.put,lA,lB,lC]
      go_upto_region 7 with fail;refine b0E ?_;try dsimp only[List.append]
      refine b0P (some 49) (.int .i64 4) ?_;refine b0V 3 50 [.bool true,.bool true,.pointer (some ⟨G,14,none⟩)] ?_;refine b0R (some 53) _ (b1N (HK.out.cell (i:=14) (v:=.slice Aa x.args.length ca) rfl)) ?_;refine b0P (some 54) (.int .i64 x.args.length) ?_;by_cases hzA:x.args.length=0
      rotate_left
      ·have dzA:decide ((0:Int)<x.args.length)=true:=decide_eq_true (by omega);rw[decide_eq_false hzA,Bool.false_and] at HE;refine b0R (some 55) (.bool true) (b0f rfl (by kernel_rfl) (by kernel_rfl) dzA) ?_;refine b0V 21 56 [.bool true,.bool true,uD,uD,uD,uD,uD,uD,uD,uD,.bool true,.bool true,uD,uD,uD,uD,uD,uD,uD,uD,.bool true] ?_;refine b0C ?_;try simp only[sP,Act.put,lA,lB,lC]
       go_wp2;go_ret;exact⟨by rw[←HE.out];rfl,HX.out⟩
      have dzA:decide ((0:Int)<x.args.length)=false:=decide_eq_false (by omega);rw[decide_eq_true hzA,Bool.true_and] at HE;refine b0R (some 55) (.bool false) (b0f rfl (by kernel_rfl) (by kernel_rfl) dzA) ?_;refine b0V 6 56 [.bool false,.bool false,.bool false,.bool true,.bool true,.pointer (some ⟨G,15,none⟩)] ?_;refine b0R (some 62) _ (b1B (HK.out.cell (i:=15) (v:=.slice At x.thn.length ct) rfl)) ?_;refine b0P (some 63) (.int .i64 x.thn.length) ?_;by_cases hzT:x.thn.length=0
      rotate_left
      ·have dzT:decide ((0:Int)<x.thn.length)=true:=decide_eq_true (by omega);rw[decide_eq_false hzT,Bool.false_and] at HE;refine b0R (some 64) (.bool true) (b0f rfl (by kernel_rfl) (by kernel_rfl) dzT) ?_;refine b0V 12 65 [.bool true,.bool true,.bool true,uD,uD,uD,uD,uD,uD,uD,uD,.bool true] ?_;refine b0C ?_;try simp only[sP,Act.put,lA,lB,lC]
       go_wp2;go_ret;exact⟨by rw[←HE.out];rfl,HX.out⟩
      have dzT:decide ((0:Int)<x.thn.length)=false:=decide_eq_false (by omega);rw[decide_eq_true hzT,Bool.true_and] at HE;refine b0R (some 64) (.bool false) (b0f rfl (by kernel_rfl) (by kernel_rfl) dzT) ?_;refine b0V 4 65 [.bool false,.bool false,.bool false,.int .i64 4] ?_;refine b0V 3 69 [.bool true,.bool true,.pointer (some ⟨G,16,none⟩)] ?_;refine b0R (some 72) _ (b1B (HK.out.cell (i:=16) (v:=.slice Al x.els.length cl) rfl)) ?_;refine b0P (some 73) (.int .i64 x.els.length) ?_;by_cases hzE:x.els.length=0
      rotate_left
      ·have dzE:decide ((0:Int)<x.els.length)=true:=decide_eq_true (by omega);rw[decide_eq_false hzE,Bool.false_and] at HE;refine b0R (some 74) (.bool true) (b0f rfl (by kernel_rfl) (by kernel_rfl) dzE) ?_;refine b0V 2 75 [.bool true,.bool true] ?_;refine b0C ?_;try simp only[sP,Act.put,lA,lB,lC]
       go_wp2;go_ret;exact⟨by rw[←HE.out];rfl,HX.out⟩
      have dzE:decide ((0:Int)<x.els.length)=false:=decide_eq_false (by omega);rw[decide_eq_true hzE,Bool.true_and] at HE;refine b0R (some 74) (.bool false) (b0f rfl (by kernel_rfl) (by kernel_rfl) dzE) ?_;refine b0V 2 75 [.bool false,.bool false] ?_;refine b0C ?_;try simp only[sP,Act.put,lA,lB,lC]
      go_upto_region 9 with fail;refine b0E ?_;try dsimp only[List.append]
      refine b0P (some 77) (.pointer (some ⟨G,14,none⟩)) ?_;refine b0R (some 78) _ (b1N (HK.out.cell (i:=14) (v:=.slice Aa x.args.length ca) rfl)) ?_;refine b0W (some 79) 149 #[.slice Aa x.args.length ca,.func (.func 193) #[] #[]] (HA1.out _ HX.out) ?_;rintro r W3 ⟨rfl,hb⟩;replace HX:=Hi_ (HX.out.tr hb);replace HK:=Hi_ (HK.out.keep hb);clear hb;refine⟨_,rfl,?_⟩;cases bA with
      | false =>
       rw[Bool.false_and] at HE;refine b0V 11 80 [.bool false,.bool false,uD,uD,uD,.bool false,.bool false,uD,uD,uD,.bool false] ?_;refine b0P (some 2) (.bool false) ?_;refine b0C ?_;try simp only[sP,Act.put,lA,lB,lC]
       go_wp2;go_ret;exact⟨by rw[←HE.out];rfl,HX.out⟩
      | true =>
       rw[Bool.true_and] at HE;refine b0V 3 80 [.bool true,.bool true,.pointer (some ⟨G,15,none⟩)] ?_;refine b0R (some 83) _ (b1B (HK.out.cell (i:=15) (v:=.slice At x.thn.length ct) rfl)) ?_;refine b0W (some 84) 107 #[.slice At x.thn.length ct] (HT1.out _ HX.out) ?_;rintro r W3 ⟨rfl,hb⟩;replace HX:=Hi_ (HX.out.tr hb);replace HK:=Hi_ (HK.out.keep hb);clear hb;refine⟨_,rfl,?_⟩;cases bT with
       | false =>
        rw[Bool.false_and] at HE;refine b0V 6 85 [.bool false,.bool false,uD,uD,uD,.bool false] ?_;refine b0P (some 2) (.bool false) ?_;refine b0C ?_;try simp only[sP,Act.put,lA,lB,lC]
        go_wp2;go_ret;exact⟨by rw[←HE.out];rfl,HX.out⟩
       | true =>
        rw[Bool.true_and] at HE;refine b0V 3 85 [.bool true,.bool true,.pointer (some ⟨G,16,none⟩)] ?_;refine b0R (some 88) _ (b1B (HK.out.cell (i:=16) (v:=.slice Al x.els.length cl) rfl)) ?_;refine b0W (some 89) 107 #[.slice Al x.els.length cl] (HL1.out _ HX.out) ?_;rintro r W3 ⟨rfl,hb⟩;replace HX:=Hi_ (HX.out.tr hb);replace HK:=Hi_ (HK.out.keep hb);clear hb;refine⟨_,rfl,?_⟩;cases bE with
        | false =>
         refine b0P (some 90) (.bool false) ?_;refine b0P (some 2) (.bool false) ?_;refine b0C ?_;try simp only[sP,Act.put,lA,lB,lC]
         go_wp2;go_ret;exact⟨by rw[←HE.out];rfl,HX.out⟩
        | true =>
         refine b0P (some 90) (.bool true) ?_;refine b0P (some 2) (.bool true) ?_;refine b0C ?_;try simp only[sP,Act.put,lA,lB,lC]
         go_wp2;go_ret;exact⟨by rw[←HE.out];rfl,HX.out⟩
 ·have HE:Hid ((b0y x.name false && (b0y x.other false && (b3H x.index false && (b3H x.expr true && (decide (x.args.length=0) && (decide (x.thn.length=0) && (decide (x.els.length=0) && (x.args.all TE.ok && (b1l x.thn && b1l x.els)))))))))=x.ok):=Hi_ (by rw[TC.ok_prog,hk];rfl);replace HN1:=Hi_ (fun W (hb:Bel w W)=>HN1.out false W);replace HN2:=Hi_ (fun W (hb:Bel w W)=>HN2.out false W);replace HI1:=Hi_ (HI1.out false);replace HE1:=Hi_ (HE1.out true);clear HOK;rw[hk] at HK HX ⊢;clear hk;generalize x.ok=T at *;generalize b0y x.name false=b1 at *;generalize b0y x.other false=b2 at *;generalize b3H x.index false=b3 at *;generalize b3H x.expr true=b4 at *;generalize x.args.all TE.ok=bA at *;generalize b1l x.thn=bT at *;generalize b1l x.els=bE at *;generalize x.at_=xa at *;generalize x.name=xn at *;generalize x.other=xo at *;generalize x.index.kind=ik at *;generalize x.index.at_=ia at *;generalize x.index.n=iN at *;generalize x.index.name=is_ at *;generalize x.expr.kind=ek at *;generalize x.expr.at_=ea at *;generalize x.expr.n=en at *;generalize x.expr.name=es at *;go_enter Tryz.func159,Tryz.ntmps159;go_upto_region 1 with fail;generalize w.alloc (.cells #[.int .i64 5,.int .i64 xa,.string xn,.string xo,.int .i64 ik,.int .i64 ia,.int .i64 iN,.string is_,.slice Ai x.index.args.length ci,.int .i64 ek,.int .i64 ea,.int .i64 en,.string es,.slice Ae x.expr.args.length ce,.slice Aa x.args.length ca,.slice At x.thn.length ct,.slice Al x.els.length cl] 53)=W0 at *;generalize w.heap.size=G at *;have c0:=HK.out.cell (i:=0) (v:=.int .i64 5) rfl;go_upto_region 5 with fail;clear c0;refine b0E ?_;try dsimp only[List.append]
  refine b0P (some 15) (.pointer (some ⟨G,2,none⟩)) ?_;refine b0R (some 16) _ (b0c (HK.out.cell (i:=2) (v:=.string xn) rfl)) ?_;refine b0P (some 17) (.int .i64 5) ?_;refine b0P (some 18) (.bool false) ?_;refine b0W (some 19) 100 #[.string xn,.bool false] (HN1.out _ HX.out) ?_;rintro r W3 ⟨rfl,hb⟩;replace HX:=Hi_ (HX.out.tr hb);replace HK:=Hi_ (HK.out.keep hb);clear hb;refine⟨_,rfl,?_⟩;cases b1 with
  | false =>
   rw[Bool.false_and] at HE;refine b0V 29 20 [.bool true,.bool true,uD,uD,uD,uD,uD,uD,.bool true,.bool true,uD,uD,uD,uD,uD,uD,.bool true,.bool true,uD,uD,uD,uD,uD,uD,uD,uD,uD,uD,.bool true] ?_;refine b0C ?_;try simp only[sP,Act.put,lA,lB,lC]
   go_wp2;go_ret;exact⟨by rw[←HE.out];rfl,HX.out⟩
  | true =>
   rw[Bool.true_and] at HE;refine b0V 3 20 [.bool false,.bool false,.pointer (some ⟨G,3,none⟩)] ?_;refine b0R (some 23) _ (b0c (HK.out.cell (i:=3) (v:=.string xo) rfl)) ?_;refine b0P (some 24) (.int .i64 5) ?_;refine b0P (some 25) (.bool false) ?_;refine b0W (some 26) 100 #[.string xo,.bool false] (HN2.out _ HX.out) ?_;rintro r W3 ⟨rfl,hb⟩;replace HX:=Hi_ (HX.out.tr hb);replace HK:=Hi_ (HK.out.keep hb);clear hb;refine⟨_,rfl,?_⟩;cases b2 with
   | false =>
    rw[Bool.false_and] at HE;refine b0V 22 27 [.bool true,.bool true,.bool true,uD,uD,uD,uD,uD,uD,.bool true,.bool true,uD,uD,uD,uD,uD,uD,uD,uD,uD,uD,.bool true] ?_;refine b0C ?_;try simp only[sP,Act.put,lA,lB,lC]
    go_wp2;go_ret;exact⟨by rw[←HE.out];rfl,HX.out⟩
   | true =>
    rw[Bool.true_and] at HE;refine b0V 4 27 [.bool false,.bool false,.bool false,.pointer (some ⟨G,4,none⟩)] ?_;refine b0R (some 31) _ (b0B 49 (.tmp 30) rfl b2R G 4 (by kernel_rfl) [.int .i64 ik,.int .i64 ia,.int .i64 iN,.string is_,.slice Ai x.index.args.length ci] (b0b HK.out 4 rfl) rfl (by kernel_rfl)) ?_;refine b0P (some 32) (.int .i64 5) ?_;refine b0P (some 33) (.bool false) ?_;refine b0W (some 34) 101 #[.agg #[.int .i64 ik,.int .i64 ia,.int .i64 iN,.string is_,.slice Ai x.index.args.length ci],.bool false] (HI1.out _ HX.out) ?_;rintro r W3 ⟨rfl,hb⟩;replace HX:=Hi_ (HX.out.tr hb);replace HK:=Hi_ (HK.out.keep hb);clear hb;refine⟨_,rfl,?_⟩;cases b3 with
    | false =>
     rw[Bool.false_and] at HE;refine b0V 14 35 [.bool true,.bool true,.bool true,uD,uD,uD,uD,uD,uD,uD,uD,uD,uD,.bool true] ?_;refine b0C ?_;try simp only[sP,Act.put,lA,lB,lC]
     go_wp2;go_ret;exact⟨by rw[←HE.out];rfl,HX.out⟩
    | true =>
     rw[Bool.true_and] at HE;refine b0V 4 35 [.bool false,.bool false,.bool false,.pointer (some ⟨G,9,none⟩)] ?_;refine b0R (some 39) _ (b0B 49 (.tmp 38) rfl b2R G 9 (by kernel_rfl) [.int .i64 ek,.int .i64 ea,.int .i64 en,.string es,.slice Ae x.expr.args.length ce] (b0b HK.out 9 rfl) rfl (by kernel_rfl)) ?_;refine b0P (some 40) (.int .i64 5) ?_;refine b0V 3 41 [.bool true,.bool true,.int .i64 5] ?_;refine b0V 2 44 [.bool true,.bool true] ?_;refine b0W (some 46) 101 #[.agg #[.int .i64 ek,.int .i64 ea,.int .i64 en,.string es,.slice Ae x.expr.args.length ce],.bool true] (HE1.out _ HX.out) ?_;rintro r W3 ⟨rfl,hb⟩;replace HX:=Hi_ (HX.out.tr hb);replace HK:=Hi_ (HK.out.keep hb);clear hb;refine⟨_,rfl,?_⟩;cases b4 with
     | false =>
      rw[Bool.false_and] at HE;refine b0V 2 47 [.bool true,.bool true] ?_;refine b0C ?_;try simp only[sP,Act.put,lA,lB,lC]
      go_wp2;go_ret;exact⟨by rw[←HE.out];rfl,HX.out⟩
     | true =>
      rw[Bool.true_and] at HE;refine b0V 2 47 [.bool false,.bool false] ?_;refine b0C ?_;try simp only[sP,Act.put,lA,lB,lC]
      go_upto_region 7 with fail;refine b0E ?_;try dsimp only[List.append]
      refine b0P (some 49) (.int .i64 5) ?_;refine b0V 3 50 [.bool true,.bool true,.pointer (some ⟨G,14,none⟩)] ?_;refine b0R (some 53) _ (b1N (HK.out.cell (i:=14) (v:=.slice Aa x.args.length ca) rfl)) ?_;refine b0P (some 54) (.int .i64 x.args.length) ?_;by_cases hzA:x.args.length=0
      rotate_left
      ·have dzA:decide ((0:Int)<x.args.length)=true:=decide_eq_true (by omega);rw[decide_eq_false hzA,Bool.false_and] at HE;refine b0R (some 55) (.bool true) (b0f rfl (by kernel_rfl) (by kernel_rfl) dzA) ?_;refine b0V 21 56 [.bool true,.bool true,uD,uD,uD,uD,uD,uD,uD,uD,.bool true,.bool true,uD,uD,uD,uD,uD,uD,uD,uD,.bool true] ?_;refine b0C ?_;try simp only[sP,Act.put,lA,lB,lC]
       go_wp2;go_ret;exact⟨by rw[←HE.out];rfl,HX.out⟩
      have dzA:decide ((0:Int)<x.args.length)=false:=decide_eq_false (by omega);rw[decide_eq_true hzA,Bool.true_and] at HE;refine b0R (some 55) (.bool false) (b0f rfl (by kernel_rfl) (by kernel_rfl) dzA) ?_;refine b0V 6 56 [.bool false,.bool false,.bool false,.bool true,.bool true,.pointer (some ⟨G,15,none⟩)] ?_;refine b0R (some 62) _ (b1B (HK.out.cell (i:=15) (v:=.slice At x.thn.length ct) rfl)) ?_;refine b0P (some 63) (.int .i64 x.thn.length) ?_;by_cases hzT:x.thn.length=0
      rotate_left
      ·have dzT:decide ((0:Int)<x.thn.length)=true:=decide_eq_true (by omega);rw[decide_eq_false hzT,Bool.false_and] at HE;refine b0R (some 64) (.bool true) (b0f rfl (by kernel_rfl) (by kernel_rfl) dzT) ?_;refine b0V 12 65 [.bool true,.bool true,.bool true,uD,uD,uD,uD,uD,uD,uD,uD,.bool true] ?_;refine b0C ?_;try simp only[sP,Act.put,lA,lB,lC]
       go_wp2;go_ret;exact⟨by rw[←HE.out];rfl,HX.out⟩
      have dzT:decide ((0:Int)<x.thn.length)=false:=decide_eq_false (by omega);rw[decide_eq_true hzT,Bool.true_and] at HE;refine b0R (some 64) (.bool false) (b0f rfl (by kernel_rfl) (by kernel_rfl) dzT) ?_;refine b0V 4 65 [.bool false,.bool false,.bool false,.int .i64 5] ?_;refine b0V 3 69 [.bool true,.bool true,.pointer (some ⟨G,16,none⟩)] ?_;refine b0R (some 72) _ (b1B (HK.out.cell (i:=16) (v:=.slice Al x.els.length cl) rfl)) ?_;refine b0P (some 73) (.int .i64 x.els.length) ?_;by_cases hzE:x.els.length=0
      rotate_left
      ·have dzE:decide ((0:Int)<x.els.length)=true:=decide_eq_true (by omega);rw[decide_eq_false hzE,Bool.false_and] at HE;refine b0R (some 74) (.bool true) (b0f rfl (by kernel_rfl) (by kernel_rfl) dzE) ?_;refine b0V 2 75 [.bool true,.bool true] ?_;refine b0C ?_;try simp only[sP,Act.put,lA,lB,lC]
       go_wp2;go_ret;exact⟨by rw[←HE.out];rfl,HX.out⟩
      have dzE:decide ((0:Int)<x.els.length)=false:=decide_eq_false (by omega);rw[decide_eq_true hzE,Bool.true_and] at HE;refine b0R (some 74) (.bool false) (b0f rfl (by kernel_rfl) (by kernel_rfl) dzE) ?_;refine b0V 2 75 [.bool false,.bool false] ?_;refine b0C ?_;try simp only[sP,Act.put,lA,lB,lC]
      go_upto_region 9 with fail;refine b0E ?_;try dsimp only[List.append]
      refine b0P (some 77) (.pointer (some ⟨G,14,none⟩)) ?_;refine b0R (some 78) _ (b1N (HK.out.cell (i:=14) (v:=.slice Aa x.args.length ca) rfl)) ?_;refine b0W (some 79) 149 #[.slice Aa x.args.length ca,.func (.func 193) #[] #[]] (HA1.out _ HX.out) ?_;rintro r W3 ⟨rfl,hb⟩;replace HX:=Hi_ (HX.out.tr hb);replace HK:=Hi_ (HK.out.keep hb);clear hb;refine⟨_,rfl,?_⟩;cases bA with
      | false =>
       rw[Bool.false_and] at HE;refine b0V 11 80 [.bool false,.bool false,uD,uD,uD,.bool false,.bool false,uD,uD,uD,.bool false] ?_;refine b0P (some 2) (.bool false) ?_;refine b0C ?_;try simp only[sP,Act.put,lA,lB,lC]
       go_wp2;go_ret;exact⟨by rw[←HE.out];rfl,HX.out⟩
      | true =>
       rw[Bool.true_and] at HE;refine b0V 3 80 [.bool true,.bool true,.pointer (some ⟨G,15,none⟩)] ?_;refine b0R (some 83) _ (b1B (HK.out.cell (i:=15) (v:=.slice At x.thn.length ct) rfl)) ?_;refine b0W (some 84) 107 #[.slice At x.thn.length ct] (HT1.out _ HX.out) ?_;rintro r W3 ⟨rfl,hb⟩;replace HX:=Hi_ (HX.out.tr hb);replace HK:=Hi_ (HK.out.keep hb);clear hb;refine⟨_,rfl,?_⟩;cases bT with
       | false =>
        rw[Bool.false_and] at HE;refine b0V 6 85 [.bool false,.bool false,uD,uD,uD,.bool false] ?_;refine b0P (some 2) (.bool false) ?_;refine b0C ?_;try simp only[sP,Act.put,lA,lB,lC]
        go_wp2;go_ret;exact⟨by rw[←HE.out];rfl,HX.out⟩
       | true =>
        rw[Bool.true_and] at HE;refine b0V 3 85 [.bool true,.bool true,.pointer (some ⟨G,16,none⟩)] ?_;refine b0R (some 88) _ (b1B (HK.out.cell (i:=16) (v:=.slice Al x.els.length cl) rfl)) ?_;refine b0W (some 89) 107 #[.slice Al x.els.length cl] (HL1.out _ HX.out) ?_;rintro r W3 ⟨rfl,hb⟩;replace HX:=Hi_ (HX.out.tr hb);replace HK:=Hi_ (HK.out.keep hb);clear hb;refine⟨_,rfl,?_⟩;cases bE with
        | false =>
         refine b0P (some 90) (.bool false) ?_;refine b0P (some 2) (.bool false) ?_;refine b0C ?_;try simp only[sP,Act.put,lA,lB,lC]
         go_wp2;go_ret;exact⟨by rw[←HE.out];rfl,HX.out⟩
        | true =>
         refine b0P (some 90) (.bool true) ?_;refine b0P (some 2) (.bool true) ?_;refine b0C ?_;try simp only[sP,Act.put,lA,lB,lC]
         go_wp2;go_ret;exact⟨by rw[←HE.out];rfl,HX.out⟩
 ·have HE:Hid ((b0y x.name false && (b0y x.other false && (b3H x.index false && (b3H x.expr true && (decide (x.args.length=0) && (x.args.all TE.ok && (b1l x.thn && b1l x.els)))))))=x.ok):=Hi_ (by rw[TC.ok_prog,hk];rfl);replace HN1:=Hi_ (fun W (hb:Bel w W)=>HN1.out false W);replace HN2:=Hi_ (fun W (hb:Bel w W)=>HN2.out false W);replace HI1:=Hi_ (HI1.out false);replace HE1:=Hi_ (HE1.out true);clear HOK;rw[hk] at HK HX ⊢;clear hk;generalize x.ok=T at *;generalize b0y x.name false=b1 at *;generalize b0y x.other false=b2 at *;generalize b3H x.index false=b3 at *;generalize b3H x.expr true=b4 at *;generalize x.args.all TE.ok=bA at *;generalize b1l x.thn=bT at *;generalize b1l x.els=bE at *;generalize x.at_=xa at *;generalize x.name=xn at *;generalize x.other=xo at *;generalize x.index.kind=ik at *;generalize x.index.at_=ia at *;generalize x.index.n=iN at *;generalize x.index.name=is_ at *;generalize x.expr.kind=ek at *;generalize x.expr.at_=ea at *;generalize x.expr.n=en at *;generalize x.expr.name=es at *;go_enter Tryz.func159,Tryz.ntmps159;go_upto_region 1 with fail;generalize w.alloc (.cells #[.int .i64 6,.int .i64 xa,.string xn,.string xo,.int .i64 ik,.int .i64 ia,.int .i64 iN,.string is_,.slice Ai x.index.args.length ci,.int .i64 ek,.int .i64 ea,.int .i64 en,.string es,.slice Ae x.expr.args.length ce,.slice Aa x.args.length ca,.slice At x.thn.length ct,.slice Al x.els.length cl] 53)=W0 at *;generalize w.heap.size=G at *;have c0:=HK.out.cell (i:=0) (v:=.int .i64 6) rfl;go_upto_region 5 with fail;clear c0;refine b0E ?_;try dsimp only[List.append]
  refine b0P (some 15) (.pointer (some ⟨G,2,none⟩)) ?_;refine b0R (some 16) _ (b0c (HK.out.cell (i:=2) (v:=.string xn) rfl)) ?_;refine b0P (some 17) (.int .i64 6) ?_;refine b0P (some 18) (.bool false) ?_;refine b0W (some 19) 100 #[.string xn,.bool false] (HN1.out _ HX.out) ?_;rintro r W3 ⟨rfl,hb⟩;replace HX:=Hi_ (HX.out.tr hb);replace HK:=Hi_ (HK.out.keep hb);clear hb;refine⟨_,rfl,?_⟩;cases b1 with
  | false =>
   rw[Bool.false_and] at HE;refine b0V 29 20 [.bool true,.bool true,uD,uD,uD,uD,uD,uD,.bool true,.bool true,uD,uD,uD,uD,uD,uD,.bool true,.bool true,uD,uD,uD,uD,uD,uD,uD,uD,uD,uD,.bool true] ?_;refine b0C ?_;try simp only[sP,Act.put,lA,lB,lC]
   go_wp2;go_ret;exact⟨by rw[←HE.out];rfl,HX.out⟩
  | true =>
   rw[Bool.true_and] at HE;refine b0V 3 20 [.bool false,.bool false,.pointer (some ⟨G,3,none⟩)] ?_;refine b0R (some 23) _ (b0c (HK.out.cell (i:=3) (v:=.string xo) rfl)) ?_;refine b0P (some 24) (.int .i64 6) ?_;refine b0P (some 25) (.bool false) ?_;refine b0W (some 26) 100 #[.string xo,.bool false] (HN2.out _ HX.out) ?_;rintro r W3 ⟨rfl,hb⟩;replace HX:=Hi_ (HX.out.tr hb);replace HK:=Hi_ (HK.out.keep hb);clear hb;refine⟨_,rfl,?_⟩;cases b2 with
   | false =>
    rw[Bool.false_and] at HE;refine b0V 22 27 [.bool true,.bool true,.bool true,uD,uD,uD,uD,uD,uD,.bool true,.bool true,uD,uD,uD,uD,uD,uD,uD,uD,uD,uD,.bool true] ?_;refine b0C ?_;try simp only[sP,Act.put,lA,lB,lC]
    go_wp2;go_ret;exact⟨by rw[←HE.out];rfl,HX.out⟩
   | true =>
    rw[Bool.true_and] at HE;refine b0V 4 27 [.bool false,.bool false,.bool false,.pointer (some ⟨G,4,none⟩)] ?_;refine b0R (some 31) _ (b0B 49 (.tmp 30) rfl b2R G 4 (by kernel_rfl) [.int .i64 ik,.int .i64 ia,.int .i64 iN,.string is_,.slice Ai x.index.args.length ci] (b0b HK.out 4 rfl) rfl (by kernel_rfl)) ?_;refine b0P (some 32) (.int .i64 6) ?_;refine b0P (some 33) (.bool false) ?_;refine b0W (some 34) 101 #[.agg #[.int .i64 ik,.int .i64 ia,.int .i64 iN,.string is_,.slice Ai x.index.args.length ci],.bool false] (HI1.out _ HX.out) ?_;rintro r W3 ⟨rfl,hb⟩;replace HX:=Hi_ (HX.out.tr hb);replace HK:=Hi_ (HK.out.keep hb);clear hb;refine⟨_,rfl,?_⟩;cases b3 with
    | false =>
     rw[Bool.false_and] at HE;refine b0V 14 35 [.bool true,.bool true,.bool true,uD,uD,uD,uD,uD,uD,uD,uD,uD,uD,.bool true] ?_;refine b0C ?_;try simp only[sP,Act.put,lA,lB,lC]
     go_wp2;go_ret;exact⟨by rw[←HE.out];rfl,HX.out⟩
    | true =>
     rw[Bool.true_and] at HE;refine b0V 4 35 [.bool false,.bool false,.bool false,.pointer (some ⟨G,9,none⟩)] ?_;refine b0R (some 39) _ (b0B 49 (.tmp 38) rfl b2R G 9 (by kernel_rfl) [.int .i64 ek,.int .i64 ea,.int .i64 en,.string es,.slice Ae x.expr.args.length ce] (b0b HK.out 9 rfl) rfl (by kernel_rfl)) ?_;refine b0P (some 40) (.int .i64 6) ?_;refine b0V 3 41 [.bool true,.bool true,.int .i64 6] ?_;refine b0V 2 44 [.bool true,.bool true] ?_;refine b0W (some 46) 101 #[.agg #[.int .i64 ek,.int .i64 ea,.int .i64 en,.string es,.slice Ae x.expr.args.length ce],.bool true] (HE1.out _ HX.out) ?_;rintro r W3 ⟨rfl,hb⟩;replace HX:=Hi_ (HX.out.tr hb);replace HK:=Hi_ (HK.out.keep hb);clear hb;refine⟨_,rfl,?_⟩;cases b4 with
     | false =>
      rw[Bool.false_and] at HE;refine b0V 2 47 [.bool true,.bool true] ?_;refine b0C ?_;try simp only[sP,Act.put,lA,lB,lC]
      go_wp2;go_ret;exact⟨by rw[←HE.out];rfl,HX.out⟩
     | true =>
      rw[Bool.true_and] at HE;refine b0V 2 47 [.bool false,.bool false] ?_;refine b0C ?_;try simp only[sP,Act.put,lA,lB,lC]
      go_upto_region 7 with fail;refine b0E ?_;try dsimp only[List.append]
      refine b0P (some 49) (.int .i64 6) ?_;refine b0V 3 50 [.bool true,.bool true,.pointer (some ⟨G,14,none⟩)] ?_;refine b0R (some 53) _ (b1N (HK.out.cell (i:=14) (v:=.slice Aa x.args.length ca) rfl)) ?_;refine b0P (some 54) (.int .i64 x.args.length) ?_;by_cases hzA:x.args.length=0
      rotate_left
      ·have dzA:decide ((0:Int)<x.args.length)=true:=decide_eq_true (by omega);rw[decide_eq_false hzA,Bool.false_and] at HE;refine b0R (some 55) (.bool true) (b0f rfl (by kernel_rfl) (by kernel_rfl) dzA) ?_;refine b0V 21 56 [.bool true,.bool true,uD,uD,uD,uD,uD,uD,uD,uD,.bool true,.bool true,uD,uD,uD,uD,uD,uD,uD,uD,.bool true] ?_;refine b0C ?_;try simp only[sP,Act.put,lA,lB,lC]
       go_wp2;go_ret;exact⟨by rw[←HE.out];rfl,HX.out⟩
      have dzA:decide ((0:Int)<x.args.length)=false:=decide_eq_false (by omega);rw[decide_eq_true hzA,Bool.true_and] at HE;refine b0R (some 55) (.bool false) (b0f rfl (by kernel_rfl) (by kernel_rfl) dzA) ?_;refine b0V 13 56 [.bool false,.bool false,.bool true,.bool false,.bool false,uD,uD,uD,uD,.bool false,.bool false,.bool false,.int .i64 6] ?_;refine b0V 8 69 [.bool false,.bool false,uD,uD,uD,uD,.bool false,.bool false] ?_;refine b0C ?_;try simp only[sP,Act.put,lA,lB,lC]
      go_upto_region 9 with fail;refine b0E ?_;try dsimp only[List.append]
      refine b0P (some 77) (.pointer (some ⟨G,14,none⟩)) ?_;refine b0R (some 78) _ (b1N (HK.out.cell (i:=14) (v:=.slice Aa x.args.length ca) rfl)) ?_;refine b0W (some 79) 149 #[.slice Aa x.args.length ca,.func (.func 193) #[] #[]] (HA1.out _ HX.out) ?_;rintro r W3 ⟨rfl,hb⟩;replace HX:=Hi_ (HX.out.tr hb);replace HK:=Hi_ (HK.out.keep hb);clear hb;refine⟨_,rfl,?_⟩;cases bA with
      | false =>
       rw[Bool.false_and] at HE;refine b0V 11 80 [.bool false,.bool false,uD,uD,uD,.bool false,.bool false,uD,uD,uD,.bool false] ?_;refine b0P (some 2) (.bool false) ?_;refine b0C ?_;try simp only[sP,Act.put,lA,lB,lC]
       go_wp2;go_ret;exact⟨by rw[←HE.out];rfl,HX.out⟩
      | true =>
       rw[Bool.true_and] at HE;refine b0V 3 80 [.bool true,.bool true,.pointer (some ⟨G,15,none⟩)] ?_;refine b0R (some 83) _ (b1B (HK.out.cell (i:=15) (v:=.slice At x.thn.length ct) rfl)) ?_;refine b0W (some 84) 107 #[.slice At x.thn.length ct] (HT1.out _ HX.out) ?_;rintro r W3 ⟨rfl,hb⟩;replace HX:=Hi_ (HX.out.tr hb);replace HK:=Hi_ (HK.out.keep hb);clear hb;refine⟨_,rfl,?_⟩;cases bT with
       | false =>
        rw[Bool.false_and] at HE;refine b0V 6 85 [.bool false,.bool false,uD,uD,uD,.bool false] ?_;refine b0P (some 2) (.bool false) ?_;refine b0C ?_;try simp only[sP,Act.put,lA,lB,lC]
        go_wp2;go_ret;exact⟨by rw[←HE.out];rfl,HX.out⟩
       | true =>
        rw[Bool.true_and] at HE;refine b0V 3 85 [.bool true,.bool true,.pointer (some ⟨G,16,none⟩)] ?_;refine b0R (some 88) _ (b1B (HK.out.cell (i:=16) (v:=.slice Al x.els.length cl) rfl)) ?_;refine b0W (some 89) 107 #[.slice Al x.els.length cl] (HL1.out _ HX.out) ?_;rintro r W3 ⟨rfl,hb⟩;replace HX:=Hi_ (HX.out.tr hb);replace HK:=Hi_ (HK.out.keep hb);clear hb;refine⟨_,rfl,?_⟩;cases bE with
        | false =>
         refine b0P (some 90) (.bool false) ?_;refine b0P (some 2) (.bool false) ?_;refine b0C ?_;try simp only[sP,Act.put,lA,lB,lC]
         go_wp2;go_ret;exact⟨by rw[←HE.out];rfl,HX.out⟩
        | true =>
         refine b0P (some 90) (.bool true) ?_;refine b0P (some 2) (.bool true) ?_;refine b0C ?_;try simp only[sP,Act.put,lA,lB,lC]
         go_wp2;go_ret;exact⟨by rw[←HE.out];rfl,HX.out⟩
 ·have HE:Hid ((b0y x.name false && (b0y x.other false && (b3H x.index false && (b3H x.expr true && (decide (x.args.length=0) && (decide (x.els.length=0) && (x.args.all TE.ok && (b1l x.thn && b1l x.els))))))))=x.ok):=Hi_ (by rw[TC.ok_prog,hk];rfl);replace HN1:=Hi_ (fun W (hb:Bel w W)=>HN1.out false W);replace HN2:=Hi_ (fun W (hb:Bel w W)=>HN2.out false W);replace HI1:=Hi_ (HI1.out false);replace HE1:=Hi_ (HE1.out true);clear HOK;rw[hk] at HK HX ⊢;clear hk;generalize x.ok=T at *;generalize b0y x.name false=b1 at *;generalize b0y x.other false=b2 at *;generalize b3H x.index false=b3 at *;generalize b3H x.expr true=b4 at *;generalize x.args.all TE.ok=bA at *;generalize b1l x.thn=bT at *;generalize b1l x.els=bE at *;generalize x.at_=xa at *;generalize x.name=xn at *;generalize x.other=xo at *;generalize x.index.kind=ik at *;generalize x.index.at_=ia at *;generalize x.index.n=iN at *;generalize x.index.name=is_ at *;generalize x.expr.kind=ek at *;generalize x.expr.at_=ea at *;generalize x.expr.n=en at *;generalize x.expr.name=es at *;go_enter Tryz.func159,Tryz.ntmps159;go_upto_region 1 with fail;generalize w.alloc (.cells #[.int .i64 7,.int .i64 xa,.string xn,.string xo,.int .i64 ik,.int .i64 ia,.int .i64 iN,.string is_,.slice Ai x.index.args.length ci,.int .i64 ek,.int .i64 ea,.int .i64 en,.string es,.slice Ae x.expr.args.length ce,.slice Aa x.args.length ca,.slice At x.thn.length ct,.slice Al x.els.length cl] 53)=W0 at *;generalize w.heap.size=G at *;have c0:=HK.out.cell (i:=0) (v:=.int .i64 7) rfl;go_upto_region 5 with fail;clear c0;refine b0E ?_;try dsimp only[List.append]
  refine b0P (some 15) (.pointer (some ⟨G,2,none⟩)) ?_;refine b0R (some 16) _ (b0c (HK.out.cell (i:=2) (v:=.string xn) rfl)) ?_;refine b0P (some 17) (.int .i64 7) ?_;refine b0P (some 18) (.bool false) ?_;refine b0W (some 19) 100 #[.string xn,.bool false] (HN1.out _ HX.out) ?_;rintro r W3 ⟨rfl,hb⟩;replace HX:=Hi_ (HX.out.tr hb);replace HK:=Hi_ (HK.out.keep hb);clear hb;refine⟨_,rfl,?_⟩;cases b1 with
  | false =>
   rw[Bool.false_and] at HE;refine b0V 29 20 [.bool true,.bool true,uD,uD,uD,uD,uD,uD,.bool true,.bool true,uD,uD,uD,uD,uD,uD,.bool true,.bool true,uD,uD,uD,uD,uD,uD,uD,uD,uD,uD,.bool true] ?_;refine b0C ?_;try simp only[sP,Act.put,lA,lB,lC]
   go_wp2;go_ret;exact⟨by rw[←HE.out];rfl,HX.out⟩
  | true =>
   rw[Bool.true_and] at HE;refine b0V 3 20 [.bool false,.bool false,.pointer (some ⟨G,3,none⟩)] ?_;refine b0R (some 23) _ (b0c (HK.out.cell (i:=3) (v:=.string xo) rfl)) ?_;refine b0P (some 24) (.int .i64 7) ?_;refine b0P (some 25) (.bool false) ?_;refine b0W (some 26) 100 #[.string xo,.bool false] (HN2.out _ HX.out) ?_;rintro r W3 ⟨rfl,hb⟩;replace HX:=Hi_ (HX.out.tr hb);replace HK:=Hi_ (HK.out.keep hb);clear hb;refine⟨_,rfl,?_⟩;cases b2 with
   | false =>
    rw[Bool.false_and] at HE;refine b0V 22 27 [.bool true,.bool true,.bool true,uD,uD,uD,uD,uD,uD,.bool true,.bool true,uD,uD,uD,uD,uD,uD,uD,uD,uD,uD,.bool true] ?_;refine b0C ?_;try simp only[sP,Act.put,lA,lB,lC]
    go_wp2;go_ret;exact⟨by rw[←HE.out];rfl,HX.out⟩
   | true =>
    rw[Bool.true_and] at HE;refine b0V 4 27 [.bool false,.bool false,.bool false,.pointer (some ⟨G,4,none⟩)] ?_;refine b0R (some 31) _ (b0B 49 (.tmp 30) rfl b2R G 4 (by kernel_rfl) [.int .i64 ik,.int .i64 ia,.int .i64 iN,.string is_,.slice Ai x.index.args.length ci] (b0b HK.out 4 rfl) rfl (by kernel_rfl)) ?_;refine b0P (some 32) (.int .i64 7) ?_;refine b0P (some 33) (.bool false) ?_;refine b0W (some 34) 101 #[.agg #[.int .i64 ik,.int .i64 ia,.int .i64 iN,.string is_,.slice Ai x.index.args.length ci],.bool false] (HI1.out _ HX.out) ?_;rintro r W3 ⟨rfl,hb⟩;replace HX:=Hi_ (HX.out.tr hb);replace HK:=Hi_ (HK.out.keep hb);clear hb;refine⟨_,rfl,?_⟩;cases b3 with
    | false =>
     rw[Bool.false_and] at HE;refine b0V 14 35 [.bool true,.bool true,.bool true,uD,uD,uD,uD,uD,uD,uD,uD,uD,uD,.bool true] ?_;refine b0C ?_;try simp only[sP,Act.put,lA,lB,lC]
     go_wp2;go_ret;exact⟨by rw[←HE.out];rfl,HX.out⟩
    | true =>
     rw[Bool.true_and] at HE;refine b0V 4 35 [.bool false,.bool false,.bool false,.pointer (some ⟨G,9,none⟩)] ?_;refine b0R (some 39) _ (b0B 49 (.tmp 38) rfl b2R G 9 (by kernel_rfl) [.int .i64 ek,.int .i64 ea,.int .i64 en,.string es,.slice Ae x.expr.args.length ce] (b0b HK.out 9 rfl) rfl (by kernel_rfl)) ?_;refine b0P (some 40) (.int .i64 7) ?_;refine b0V 3 41 [.bool true,.bool true,.int .i64 7] ?_;refine b0V 2 44 [.bool true,.bool true] ?_;refine b0W (some 46) 101 #[.agg #[.int .i64 ek,.int .i64 ea,.int .i64 en,.string es,.slice Ae x.expr.args.length ce],.bool true] (HE1.out _ HX.out) ?_;rintro r W3 ⟨rfl,hb⟩;replace HX:=Hi_ (HX.out.tr hb);replace HK:=Hi_ (HK.out.keep hb);clear hb;refine⟨_,rfl,?_⟩;cases b4 with
     | false =>
      rw[Bool.false_and] at HE;refine b0V 2 47 [.bool true,.bool true] ?_;refine b0C ?_;try simp only[sP,Act.put,lA,lB,lC]
      go_wp2;go_ret;exact⟨by rw[←HE.out];rfl,HX.out⟩
     | true =>
      rw[Bool.true_and] at HE;refine b0V 2 47 [.bool false,.bool false] ?_;refine b0C ?_;try simp only[sP,Act.put,lA,lB,lC]
      go_upto_region 7 with fail;refine b0E ?_;try dsimp only[List.append]
      refine b0P (some 49) (.int .i64 7) ?_;refine b0V 3 50 [.bool true,.bool true,.pointer (some ⟨G,14,none⟩)] ?_;refine b0R (some 53) _ (b1N (HK.out.cell (i:=14) (v:=.slice Aa x.args.length ca) rfl)) ?_;refine b0P (some 54) (.int .i64 x.args.length) ?_;by_cases hzA:x.args.length=0
      rotate_left
      ·have dzA:decide ((0:Int)<x.args.length)=true:=decide_eq_true (by omega);rw[decide_eq_false hzA,Bool.false_and] at HE;refine b0R (some 55) (.bool true) (b0f rfl (by kernel_rfl) (by kernel_rfl) dzA) ?_;refine b0V 21 56 [.bool true,.bool true,uD,uD,uD,uD,uD,uD,uD,uD,.bool true,.bool true,uD,uD,uD,uD,uD,uD,uD,uD,.bool true] ?_;refine b0C ?_;try simp only[sP,Act.put,lA,lB,lC]
       go_wp2;go_ret;exact⟨by rw[←HE.out];rfl,HX.out⟩
      have dzA:decide ((0:Int)<x.args.length)=false:=decide_eq_false (by omega);rw[decide_eq_true hzA,Bool.true_and] at HE;refine b0R (some 55) (.bool false) (b0f rfl (by kernel_rfl) (by kernel_rfl) dzA) ?_;refine b0V 13 56 [.bool false,.bool false,.bool true,.bool false,.bool false,uD,uD,uD,uD,.bool false,.bool false,.bool false,.int .i64 7] ?_;refine b0V 3 69 [.bool true,.bool true,.pointer (some ⟨G,16,none⟩)] ?_;refine b0R (some 72) _ (b1B (HK.out.cell (i:=16) (v:=.slice Al x.els.length cl) rfl)) ?_;refine b0P (some 73) (.int .i64 x.els.length) ?_;by_cases hzE:x.els.length=0
      rotate_left
      ·have dzE:decide ((0:Int)<x.els.length)=true:=decide_eq_true (by omega);rw[decide_eq_false hzE,Bool.false_and] at HE;refine b0R (some 74) (.bool true) (b0f rfl (by kernel_rfl) (by kernel_rfl) dzE) ?_;refine b0V 2 75 [.bool true,.bool true] ?_;refine b0C ?_;try simp only[sP,Act.put,lA,lB,lC]
       go_wp2;go_ret;exact⟨by rw[←HE.out];rfl,HX.out⟩
      have dzE:decide ((0:Int)<x.els.length)=false:=decide_eq_false (by omega);rw[decide_eq_true hzE,Bool.true_and] at HE;refine b0R (some 74) (.bool false) (b0f rfl (by kernel_rfl) (by kernel_rfl) dzE) ?_;refine b0V 2 75 [.bool false,.bool false] ?_;refine b0C ?_;try simp only[sP,Act.put,lA,lB,lC]
      go_upto_region 9 with fail;refine b0E ?_;try dsimp only[List.append]
      refine b0P (some 77) (.pointer (some ⟨G,14,none⟩)) ?_;refine b0R (some 78) _ (b1N (HK.out.cell (i:=14) (v:=.slice Aa x.args.length ca) rfl)) ?_;refine b0W (some 79) 149 #[.slice Aa x.args.length ca,.func (.func 193) #[] #[]] (HA1.out _ HX.out) ?_;rintro r W3 ⟨rfl,hb⟩;replace HX:=Hi_ (HX.out.tr hb);replace HK:=Hi_ (HK.out.keep hb);clear hb;refine⟨_,rfl,?_⟩;cases bA with
      | false =>
       rw[Bool.false_and] at HE;refine b0V 11 80 [.bool false,.bool false,uD,uD,uD,.bool false,.bool false,uD,uD,uD,.bool false] ?_;refine b0P (some 2) (.bool false) ?_;refine b0C ?_;try simp only[sP,Act.put,lA,lB,lC]
       go_wp2;go_ret;exact⟨by rw[←HE.out];rfl,HX.out⟩
      | true =>
       rw[Bool.true_and] at HE;refine b0V 3 80 [.bool true,.bool true,.pointer (some ⟨G,15,none⟩)] ?_;refine b0R (some 83) _ (b1B (HK.out.cell (i:=15) (v:=.slice At x.thn.length ct) rfl)) ?_;refine b0W (some 84) 107 #[.slice At x.thn.length ct] (HT1.out _ HX.out) ?_;rintro r W3 ⟨rfl,hb⟩;replace HX:=Hi_ (HX.out.tr hb);replace HK:=Hi_ (HK.out.keep hb);clear hb;refine⟨_,rfl,?_⟩;cases bT with
       | false =>
        rw[Bool.false_and] at HE;refine b0V 6 85 [.bool false,.bool false,uD,uD,uD,.bool false] ?_;refine b0P (some 2) (.bool false) ?_;refine b0C ?_;try simp only[sP,Act.put,lA,lB,lC]
        go_wp2;go_ret;exact⟨by rw[←HE.out];rfl,HX.out⟩
       | true =>
        rw[Bool.true_and] at HE;refine b0V 3 85 [.bool true,.bool true,.pointer (some ⟨G,16,none⟩)] ?_;refine b0R (some 88) _ (b1B (HK.out.cell (i:=16) (v:=.slice Al x.els.length cl) rfl)) ?_;refine b0W (some 89) 107 #[.slice Al x.els.length cl] (HL1.out _ HX.out) ?_;rintro r W3 ⟨rfl,hb⟩;replace HX:=Hi_ (HX.out.tr hb);replace HK:=Hi_ (HK.out.keep hb);clear hb;refine⟨_,rfl,?_⟩;cases bE with
        | false =>
         refine b0P (some 90) (.bool false) ?_;refine b0P (some 2) (.bool false) ?_;refine b0C ?_;try simp only[sP,Act.put,lA,lB,lC]
         go_wp2;go_ret;exact⟨by rw[←HE.out];rfl,HX.out⟩
        | true =>
         refine b0P (some 90) (.bool true) ?_;refine b0P (some 2) (.bool true) ?_;refine b0C ?_;try simp only[sP,Act.put,lA,lB,lC]
         go_wp2;go_ret;exact⟨by rw[←HE.out];rfl,HX.out⟩
theorem c3D(x:TC):∀(cs:List Value) (w:World),TCR w x cs→Calls Tryz.prog 159 #[.agg cs.toArray] w fun r w'=>r=.returned (.bool x.ok)∧Bel w w':=by
 induction x using TC.ind with
 | h k a s t i e args thn els ih1 ih2=>exact fun cs w h=>c4t (.mk k a s t i e args thn els) cs w h ih1 ih2
theorem c1Y(l:List TC)(v:Value)(w:World)(h:Sl tcR w v l):Calls Tryz.prog 107 #[v] w fun r w'=>r=.returned (.bool (b1l l))∧Bel w w':=
 b5H l v w h fun x _=>c3D x
end Go.Proofs.YtmfjlcpjemccmaaGreatDoor
