/- One part of an expression of a program, by the program: walked. Each lemma states its own conditions. -/
import Derived.Test.YtgkpplbomciehaaStt05
import Derived.Great.BuildSlice
namespace Go.Proofs.Ytgkpplbomciehaa
set_option maxRecDepth 20000
set_option maxHeartbeats 8000000
open Go.RowKit
theorem c1Q(k:Int)(w:World):Calls Try.prog 157 #[.int .i64 k] w fun r w'=>r=.returned (.int .i64 (b1B k))∧w=w':=by
 by_cases h1:k<1
 ·have e:Hid (b1B k=-1):=Lib.hid (by unfold b1B;rw[if_pos (Or.inl h1)]);go_enter Try.func157,Try.ntmps157;go_wp2;go_ret;exact⟨by rw[e.out];rfl,rfl⟩
 by_cases h2:10<k
 ·have e:Hid (b1B k=-1):=Lib.hid (by unfold b1B;rw[if_pos (Or.inr h2)]);go_enter Try.func157,Try.ntmps157;go_wp2;go_ret;exact⟨by rw[e.out];rfl,rfl⟩
 by_cases h3:k≤2
 ·have e:Hid (b1B k=0):=Lib.hid (by unfold b1B;rw[if_neg (by omega),if_pos h3]);go_enter Try.func157,Try.ntmps157;go_wp2;go_ret;exact⟨by rw[e.out];rfl,rfl⟩
 by_cases h4:k=3
 ·subst h4;go_enter Try.func157,Try.ntmps157;go_wp2;go_ret;exact⟨rfl,rfl⟩
 ·have e:Hid (b1B k=2):=Lib.hid (by unfold b1B;rw[if_neg (by omega),if_neg h3,if_neg h4]);go_enter Try.func157,Try.ntmps157;go_wp2;go_ret;exact⟨by rw[e.out];rfl,rfl⟩
theorem c1t(z:List Int)(hz:∀n∈z,0≤n)(e:PE)(val zv:Value)(w:World)(h:PEV w e val)(hs:Sl b2l w zv z) :
  Calls Try.prog 145 #[val,zv] w fun r w'=>r=.returned (.int .i64 (b1Y z e))∧Bel w w':=by
 obtain⟨v,rfl,A,c,rfl,hc,hm,-⟩:=h;obtain⟨Z,cz,rfl,hzc,hzm,hZ⟩:=hs;have HZ:=Lib.hid hZ;have hlm:e.args.length≤9223372036854775807:=by have:=hm.1;simp only[maxLen] at this;omega
 have hlz:z.length≤9223372036854775807:=by have:=hzm.1;simp only[maxLen] at this;omega
 have HB:Hid (Bel w (w.alloc (.cells #[.int .i64 e.kind,.int .i64 e.n,.slice A e.args.length c] 47))):=Lib.hid ((Bel.rfl_ w).al _);have HAR:Hid (∀W,Calls Try.prog 157 #[.int .i64 e.kind] W fun r w'=>r=.returned (.int .i64 (b1B e.kind))∧W=w'):=Lib.hid (c1Q _);clear hc hm hzc hzm hZ;by_cases h1:b1B e.kind<0
 ·have HR:Hid (b1Y z e=7):=Lib.hid (by unfold b1Y;rw[if_pos h1]);have d1:decide (b1B e.kind<0)=true:=decide_eq_true h1;clear h1 HZ hz;generalize b1Y z e=T at *;generalize b1B e.kind=ar at *;generalize e.kind=k at *;generalize e.n=n at *;generalize e.args.length=L at *;go_enter Try.func145,Try.ntmps145;go_wp2_with fail
  refine(HAR.out _).mono ?_;rintro r w1 ⟨rfl,rfl⟩;go_wp2;go_ret;exact⟨by rw[HR.out];rfl,HB.out⟩
 have d1:decide (b1B e.kind<0)=false:=decide_eq_false h1;by_cases h2:(e.args.length:Int)≠b1B e.kind
 ·have HR:Hid (b1Y z e=1):=Lib.hid (by unfold b1Y;rw[if_neg h1,if_pos h2]);have d2:((e.args.length:Int) != b1B e.kind)=true:=by simpa using h2
  clear h1 h2 HZ hz;generalize b1Y z e=T at *;generalize b1B e.kind=ar at *;generalize e.kind=k at *;generalize e.n=n at *;generalize e.args.length=L at *;go_enter Try.func145,Try.ntmps145;go_wp2_with fail
  refine(HAR.out _).mono ?_;rintro r w1 ⟨rfl,rfl⟩;go_wp2;go_ret;exact⟨by rw[HR.out];rfl,HB.out⟩
 have d2:((e.args.length:Int) != b1B e.kind)=false:=by simpa using h2
 by_cases k1:e.kind=1
 ·have e1:(e.kind==1)=true:=by rw[k1];rfl
  by_cases hn:-9999999≤e.n∧e.n≤9999999
  ·have HR:Hid (b1Y z e=0):=Lib.hid (by unfold b1Y;rw[if_neg h1,if_neg h2,if_pos k1,if_pos hn]);obtain⟨hn1,hn2⟩:=hn;have dn:decide (e.n < -9999999)=false:=decide_eq_false (by omega);have dm:decide (e.n > 9999999)=false:=decide_eq_false (by omega);clear h1 h2 HZ hz k1 hn1 hn2;generalize b1Y z e=T at *;generalize b1B e.kind=ar at *;generalize e.kind=k at *;generalize e.n=n at *;generalize e.args.length=L at *;go_enter Try.func145,Try.ntmps145;go_wp2_with fail
   refine(HAR.out _).mono ?_;rintro r w1 ⟨rfl,rfl⟩;go_wp2;go_ret;exact⟨by rw[HR.out];rfl,HB.out⟩
  have HR:Hid (b1Y z e=3):=Lib.hid (by unfold b1Y;rw[if_neg h1,if_neg h2,if_pos k1,if_neg hn]);by_cases hn1:e.n < -9999999
  ·have dn:decide (e.n < -9999999)=true:=decide_eq_true hn1;clear h1 h2 HZ hz k1 hn;generalize b1Y z e=T at *;generalize b1B e.kind=ar at *;generalize e.kind=k at *;generalize e.n=n at *;generalize e.args.length=L at *;go_enter Try.func145,Try.ntmps145;go_wp2_with fail
   refine(HAR.out _).mono ?_;rintro r w1 ⟨rfl,rfl⟩;go_wp2;go_ret;exact⟨by rw[HR.out];rfl,HB.out⟩
  ·have dn:decide (e.n < -9999999)=false:=decide_eq_false hn1;have dm:decide (e.n > 9999999)=true:=decide_eq_true (by omega);clear h1 h2 HZ hz k1 hn hn1;generalize b1Y z e=T at *;generalize b1B e.kind=ar at *;generalize e.kind=k at *;generalize e.n=n at *;generalize e.args.length=L at *;go_enter Try.func145,Try.ntmps145;go_wp2_with fail
   refine(HAR.out _).mono ?_;rintro r w1 ⟨rfl,rfl⟩;go_wp2;go_ret;exact⟨by rw[HR.out];rfl,HB.out⟩
 have e1:(e.kind==1)=false:=by simpa using k1
 by_cases k3:e.kind≤3
 ·have hk0:1≤e.kind:=by
   unfold b1B at h1;split at h1<;>omega
  by_cases hn:0≤e.n∧e.n<z.length
  ·obtain⟨x,hx⟩:∃x,z[e.n.toNat]? = some x:=⟨_,List.getElem?_eq_getElem (by omega)⟩;have hx0:=hz x (List.mem_of_getElem? hx);have hgx:z.getD e.n.toNat 0=x:=by rw[List.getD_eq_getElem?_getD,hx];rfl
   obtain⟨b,o,rfl,hA⟩:=HZ.out (by omega);have cx:=HB.out.cell (b2l.cell hA hx);have HR0:Hid (b1Y z e=if e.kind=2∧0<x∨e.kind=3∧x=0 then 7 else 0):=Lib.hid (by unfold b1Y;rw[if_neg h1,if_neg h2,if_neg k1,if_pos k3,if_pos hn,hgx]);obtain⟨hn0,hn1⟩:=hn;have dn:decide (e.n<0)=false:=decide_eq_false (by omega);have dm:decide (e.n≥(z.length:Int))=false:=decide_eq_false (by omega);clear hA hx hgx hz HZ h1 h2;by_cases k2:e.kind=2
   ·have e2:(e.kind==2)=true:=by rw[k2];rfl
    have e3:(e.kind==3)=false:=by rw[k2];rfl
    by_cases hx1:0<x
    ·have HR:Hid (b1Y z e=7):=Lib.hid (by rw[HR0.out,if_pos (by omega)]);have dx:decide (x > 0)=true:=decide_eq_true hx1;clear k1 k2 k3 hk0 HR0 hx0 hx1;generalize b1Y z e=T at *;generalize b1B e.kind=ar at *;generalize e.kind=k at *;generalize e.n=n at *;generalize e.args.length=L at *;go_enter Try.func145,Try.ntmps145;go_wp2_with fail
     refine(HAR.out _).mono ?_;rintro r w1 ⟨rfl,rfl⟩;go_wp2;go_quiet (fail)
     go_wp2;go_ret;exact⟨by rw[HR.out];rfl,HB.out.drN _⟩
    ·have HR:Hid (b1Y z e=0):=Lib.hid (by rw[HR0.out,if_neg (by omega)]);have dx:decide (x > 0)=false:=decide_eq_false hx1;clear k1 k2 k3 hk0 HR0 hx0 hx1;generalize b1Y z e=T at *;generalize b1B e.kind=ar at *;generalize e.kind=k at *;generalize e.n=n at *;generalize e.args.length=L at *;go_enter Try.func145,Try.ntmps145;go_wp2_with fail
     refine(HAR.out _).mono ?_;rintro r w1 ⟨rfl,rfl⟩;go_wp2;go_quiet (fail)
     go_wp2;go_ret;exact⟨by rw[HR.out];rfl,HB.out.drN _⟩
   ·have e2:(e.kind==2)=false:=by simpa using k2
    have e3:(e.kind==3)=true:=by rw[show e.kind=3 by omega];rfl
    by_cases hx1:0<x
    ·have HR:Hid (b1Y z e=0):=Lib.hid (by rw[HR0.out,if_neg (by omega)]);have dx:decide (x > 0)=true:=decide_eq_true hx1;clear k1 k2 k3 hk0 HR0 hx0 hx1;generalize b1Y z e=T at *;generalize b1B e.kind=ar at *;generalize e.kind=k at *;generalize e.n=n at *;generalize e.args.length=L at *;go_enter Try.func145,Try.ntmps145;go_wp2_with fail
     refine(HAR.out _).mono ?_;rintro r w1 ⟨rfl,rfl⟩;go_wp2;go_quiet (fail)
     go_wp2;go_ret;exact⟨by rw[HR.out];rfl,HB.out.drN _⟩
    ·have HR:Hid (b1Y z e=7):=Lib.hid (by rw[HR0.out,if_pos (by omega)]);have dx:decide (x > 0)=false:=decide_eq_false hx1;clear k1 k2 k3 hk0 HR0 hx0 hx1;generalize b1Y z e=T at *;generalize b1B e.kind=ar at *;generalize e.kind=k at *;generalize e.n=n at *;generalize e.args.length=L at *;go_enter Try.func145,Try.ntmps145;go_wp2_with fail
     refine(HAR.out _).mono ?_;rintro r w1 ⟨rfl,rfl⟩;go_wp2;go_quiet (fail)
     go_wp2;go_ret;exact⟨by rw[HR.out];rfl,HB.out.drN _⟩
  ·have HR:Hid (b1Y z e=5):=Lib.hid (by unfold b1Y;rw[if_neg h1,if_neg h2,if_neg k1,if_pos k3,if_neg hn]);clear HZ hz h1 h2;by_cases k2:e.kind=2
   ·have e2:(e.kind==2)=true:=by rw[k2];rfl
    by_cases hn0:e.n<0
    ·have dn:decide (e.n<0)=true:=decide_eq_true hn0;clear k1 k2 k3 hk0 hn hn0;generalize b1Y z e=T at *;generalize b1B e.kind=ar at *;generalize e.kind=k at *;generalize e.n=n at *;generalize e.args.length=L at *;go_enter Try.func145,Try.ntmps145;go_wp2_with fail
     refine(HAR.out _).mono ?_;rintro r w1 ⟨rfl,rfl⟩;go_wp2;go_ret;exact⟨by rw[HR.out];rfl,HB.out⟩
    ·have dn:decide (e.n<0)=false:=decide_eq_false hn0;have dm:decide (e.n≥(z.length:Int))=true:=decide_eq_true (by omega);clear k1 k2 k3 hk0 hn hn0;generalize b1Y z e=T at *;generalize b1B e.kind=ar at *;generalize e.kind=k at *;generalize e.n=n at *;generalize e.args.length=L at *;go_enter Try.func145,Try.ntmps145;go_wp2_with fail
     refine(HAR.out _).mono ?_;rintro r w1 ⟨rfl,rfl⟩;go_wp2;go_ret;exact⟨by rw[HR.out];rfl,HB.out⟩
   ·have e2:(e.kind==2)=false:=by simpa using k2
    have e3:(e.kind==3)=true:=by rw[show e.kind=3 by omega];rfl
    by_cases hn0:e.n<0
    ·have dn:decide (e.n<0)=true:=decide_eq_true hn0;clear k1 k2 k3 hk0 hn hn0;generalize b1Y z e=T at *;generalize b1B e.kind=ar at *;generalize e.kind=k at *;generalize e.n=n at *;generalize e.args.length=L at *;go_enter Try.func145,Try.ntmps145;go_wp2_with fail
     refine(HAR.out _).mono ?_;rintro r w1 ⟨rfl,rfl⟩;go_wp2;go_ret;exact⟨by rw[HR.out];rfl,HB.out⟩
    ·have dn:decide (e.n<0)=false:=decide_eq_false hn0;have dm:decide (e.n≥(z.length:Int))=true:=decide_eq_true (by omega);clear k1 k2 k3 hk0 hn hn0;generalize b1Y z e=T at *;generalize b1B e.kind=ar at *;generalize e.kind=k at *;generalize e.n=n at *;generalize e.args.length=L at *;go_enter Try.func145,Try.ntmps145;go_wp2_with fail
     refine(HAR.out _).mono ?_;rintro r w1 ⟨rfl,rfl⟩;go_wp2;go_ret;exact⟨by rw[HR.out];rfl,HB.out⟩
 ·have e2:(e.kind==2)=false:=by simp;omega
  have e3:(e.kind==3)=false:=by simp;omega
  by_cases hn:e.n=0
  ·have HR:Hid (b1Y z e=0):=Lib.hid (by unfold b1Y;rw[if_neg h1,if_neg h2,if_neg k1,if_neg k3,if_neg (by omega)]);have dn:(e.n != 0)=false:=by rw[hn];rfl
   clear HZ hz h1 h2 k1 k3 hn;generalize b1Y z e=T at *;generalize b1B e.kind=ar at *;generalize e.kind=k at *;generalize e.n=n at *;generalize e.args.length=L at *;go_enter Try.func145,Try.ntmps145;go_wp2_with fail
   refine(HAR.out _).mono ?_;rintro r w1 ⟨rfl,rfl⟩;go_wp2;go_ret;exact⟨by rw[HR.out];rfl,HB.out⟩
  ·have HR:Hid (b1Y z e=3):=Lib.hid (by unfold b1Y;rw[if_neg h1,if_neg h2,if_neg k1,if_neg k3,if_pos hn]);have dn:(e.n != 0)=true:=by simpa using hn
   clear HZ hz h1 h2 k1 k3 hn;generalize b1Y z e=T at *;generalize b1B e.kind=ar at *;generalize e.kind=k at *;generalize e.n=n at *;generalize e.args.length=L at *;go_enter Try.func145,Try.ntmps145;go_wp2_with fail
   refine(HAR.out _).mono ?_;rintro r w1 ⟨rfl,rfl⟩;go_wp2;go_ret;exact⟨by rw[HR.out];rfl,HB.out⟩
theorem b8N{z:List Int}{args:List PE}{k:Nat}{x:PE}(hx:args[k]? = some x):b2h z (args.drop k)=orE (x.parts z) (b2h z (args.drop (k+1))):=by
 obtain⟨hl,rfl⟩:=List.getElem?_eq_some_iff.1 hx;rw[List.drop_eq_getElem_cons hl,b2h]
theorem b9e{z:List Int}{args:List PE}{k:Nat}(h:args.length≤k):b2h z (args.drop k)=0:=by rw[List.drop_eq_nil_of_le h,b2h]
theorem b9g(z:List Int)(hz:∀n∈z,0≤n)(k n:Int)(args:List PE)(IH:∀x∈args,∀(val zv:Value) (W:World),PEV W x val→Sl b2l W zv z →
   Calls Try.prog 111 #[val,zv] W fun r w'=>r=.returned (.int .i64 (x.parts z))∧Bel W w')
  (val zv:Value) (w:World) (h:PEV w (.mk k n args) val) (hs:Sl b2l w zv z) :
  Calls Try.prog 111 #[val,zv] w fun r w'=>r=.returned (.int .i64 ((PE.mk k n args).parts z))∧Bel w w':=by
 have HP:=Lib.hid (fun W (hb:Bel w W)=>c1t z hz (.mk k n args) val zv W (h.keep hb) (hs.keep hb));have HS:=Lib.hid hs;obtain⟨v,rfl,A,c,rfl,hc,hm,hA⟩:=h;have HI:=Lib.hid IH;have HA:=Lib.hid hA;have HT:Hid (orE (b1Y z (.mk k n args)) (b2h z args)=(PE.mk k n args).parts z):=Lib.hid (by rw[PE.parts]);generalize(PE.mk k n args).parts z=T at HT ⊢;have hlm:args.length≤9223372036854775807:=by have:=hm.1;simp only[maxLen] at this;simp only[PE.args] at hc;omega
 simp only[PE.kind,PE.n,PE.args] at HA hc ⊢;clear hm IH hA hs;have HB:=Lib.hid ((Bel.rfl_ w).al (.cells #[.int .i64 k,.int .i64 n,.slice A args.length c] 47));have z2:(w.alloc (.cells #[.int .i64 k,.int .i64 n,.slice A args.length c] 47)).cell? ⟨w.heap.size,2,none⟩=some (.slice A args.length c):=(Blk.new w 47 #[.int .i64 k,.int .i64 n,.slice A args.length c]).cell rfl;go_enter Try.func111,Try.ntmps111;go_wp2_with fail
 refine(HP.out _ HB.out).mono ?_;rintro r w1 ⟨rfl,hb⟩;have z3:=hb.cell z2;replace HB:=Lib.hid (HB.out.tr hb);clear hb z2 HP;generalize b1Y z (.mk k n args)=P0 at *;by_cases h0:P0≠0
 ·have d0:(P0 != 0)=true:=by simpa using h0
  have HR:Hid (P0=T):=Lib.hid (by rw[←HT.out,orE,if_neg h0]);clear h0;go_wp2;go_ret;exact⟨by rw[HR.out];rfl,HB.out⟩
 have h00:P0=0:=by omega
 subst h00;replace HT:Hid (b2h z (args.drop 0)=T):=Lib.hid (by rw[←HT.out];unfold orE;rw[if_pos rfl];rfl);clear h0;go_wp2;go_loopw [18] (fun i wr=>∃j:Nat,i=.int .i64 j∧j≤args.length∧Hid (b2h z (args.drop j)=T)∧Hid (Bel w wr)) (fun i _=>args.length-(intOf i).toNat)
 case atStart=>exact⟨0,rfl,by omega,HT,HB⟩
 case round =>
  obtain⟨j,rfl,hj,HJ,HW⟩:=hrel;clear HT HB z3;by_cases hlt:j<args.length
  ·obtain⟨q,hq⟩:∃e,args[j]? = some e:=⟨_,List.getElem?_eq_getElem hlt⟩;obtain⟨b,o,rfl,hA⟩:=HA.out (by omega);obtain⟨B,mm,cc,hs,y0,y1,y2⟩:=peR.cells hA hq;have y0:=HW.out.cell y0;have y1:=HW.out.cell y1;have y2:=HW.out.cell y2;have HQ:=Lib.hid hq;have HSL:=Lib.hid (hs.keep HW.out);clear hq hs hA HA;have HQV:Hid (∀W,Bel wr W→PEV W q (.agg #[.int .i64 q.kind,.int .i64 q.n,.slice B mm cc])):=Lib.hid fun W hb=>⟨_,rfl,HSL.out.keep hb⟩;replace HJ:Hid (orE (q.parts z) (b2h z (args.drop (j+1)))=T):=Lib.hid (by rw[←b8N HQ.out];exact HJ.out);have HC:=Lib.hid (fun W (hb:Bel wr W)=>HI.out q (List.mem_of_getElem? HQ.out) _ zv W (HQV.out _ hb) (HS.out.keep (HW.out.tr hb)));generalize q.kind=qk at *;generalize q.n=qn at *;generalize q.parts z=X at *;go_wp2_with fail
   refine(HC.out _ ((Bel.rfl_ _).al _)).mono ?_;rintro e w' ⟨rfl,hb⟩;have HB':=Lib.hid (HW.out.tr (Bel.tr ((Bel.rfl_ wr).al _) hb));clear hb;by_cases hx:X=0
   ·subst hx;replace HJ:Hid (b2h z (args.drop (j+1))=T):=Lib.hid (by rw[←HJ.out];unfold orE;rw[if_pos rfl]);go_wp2;go_roundw
    case rel=>exact⟨j+1,by go_num,by omega,HJ,HB'⟩
    case measure=>simp[intOf];omega
   ·have d0:(X != 0)=true:=by simpa using hx
    replace HJ:Hid (X=T):=Lib.hid (by rw[←HJ.out];unfold orE;rw[if_neg hx]);clear hx;go_wp2;go_ret;exact⟨by rw[HJ.out];rfl,HB'.out⟩
  ·replace HJ:Hid (0=T):=Lib.hid (by rw[←HJ.out,b9e (by omega)]);go_wp2;go_ret;exact⟨by rw[←HJ.out];rfl,HW.out⟩
theorem c0f(z:List Int)(hz:∀n∈z,0≤n):∀(e:PE) (val zv:Value) (w:World),PEV w e val→Sl b2l w zv z →
  Calls Try.prog 111 #[val,zv] w fun r w'=>r=.returned (.int .i64 (e.parts z))∧Bel w w':=
 PE.ind fun k n args ih val zv w h hs=>b9g z hz k n args ih val zv w h hs
theorem b8m(z:List Int)(hz:∀n∈z,0≤n)(e:PE)(val zv:Value)(w:World)(h:PEV w e val)(hs:Sl b2l w zv z) :
  Calls Try.prog 66 #[val,zv] w fun r w'=>r=.returned (.int .i64 (e.err z))∧Bel w w':=by
 have HS:=Lib.hid (fun W (hb:Bel w W)=>c0x e 15 val W (by decide) (by decide) (h.keep hb));have HP:=Lib.hid (fun W (hb:Bel w W)=>c0f z hz e val zv W (h.keep hb) (hs.keep hb));obtain⟨v,rfl,A,c,rfl,-⟩:=h;have HG:Hid (e.err z=if 15<e.size 15 then 2 else e.parts z):=Lib.hid rfl;have hle:=PE.size_le e 15 (by decide);generalize e.err z=T at *;generalize e.parts z=X at *;generalize e.size 15=y at *;generalize e.kind=k at *;generalize e.n=n at *;have HB:=Lib.hid ((Bel.rfl_ w).al (.cells #[.int .i64 k,.int .i64 n,.slice A e.args.length c] 47));have z0:∀i u,(#[Value.int .i64 k,.int .i64 n,.slice A e.args.length c]:Array Value)[i]? = some u→(w.alloc (.cells #[.int .i64 k,.int .i64 n,.slice A e.args.length c] 47)).cell? ⟨w.heap.size,i,none⟩=some u:=fun i u hu=>(Blk.new w _ _).cell hu;go_enter Try.func66,Try.ntmps66;go_wp2_with fail
 refine(HS.out _ HB.out).mono ?_;rintro r w1 ⟨rfl,hb⟩;have q0:=hb.cell (z0 0 _ rfl);have q1:=hb.cell (z0 1 _ rfl);have q2:=hb.cell (z0 2 _ rfl);replace HB:=Lib.hid (HB.out.tr hb);clear hb z0;by_cases hy:15<y
 ·have HR:Hid (T=2):=Lib.hid (by rw[HG.out,if_pos hy]);have d0:decide (y > 15)=true:=decide_eq_true hy;go_wp2;go_ret;exact⟨by rw[HR.out];rfl,HB.out⟩
 ·have HR:Hid (T=X):=Lib.hid (by rw[HG.out,if_neg hy]);have d0:decide (y > 15)=false:=decide_eq_false hy;go_wp2_with fail
  refine(HP.out _ HB.out).mono ?_;rintro r w2 ⟨rfl,hb⟩;replace HB:=Lib.hid (HB.out.tr hb);clear hb;go_wp2;go_ret;exact⟨by rw[HR.out];rfl,HB.out⟩
section
variable {w:World}{base size n cap g:Nat}{e:TypeId}{xs:List Value}
theorem b3q(ho:w.ownsRow base e size (.slice (some ⟨g,0,none⟩) n cap) n xs)(i:Nat)(u:Value):(w.setCell ⟨g,i,none⟩ u).ownsRow base e size (.slice (some ⟨g,0,none⟩) n cap) n (xs.set i u):=by
 refine⟨by rw[List.length_set];exact ho.1,?_⟩;rcases ho.2 with⟨h,_⟩ | ⟨g',cap',cur,hv,hbg,hgg,h1,h2,h3,h4⟩
 ·cases h
 ·injection hv with hv _ hc;injection hv with hv;injection hv with hv;subst hv;subst hc;have hb:Blk w g e cur:=hgg;refine .inr ⟨g,cap,cur.setIfInBounds i u,rfl,hbg,hb.set_ i u,h1,h2,by rw[Array.size_setIfInBounds];exact h3,?_⟩;rw[Array.toList_setIfInBounds,List.take_set,h4]
theorem b8M(ho:w.ownsRow base e size (.slice (some ⟨g,0,none⟩) n cap) n xs){k:Nat}(hk:k≤n):w.ownsRow base e size (.slice (some ⟨g,0,none⟩) k cap) k (xs.take (k*size)):=by
 rcases ho.2 with⟨h,_⟩ | ⟨g',cap',cur,hv,hbg,hgg,h1,h2,h3,h4⟩
 ·cases h
 ·injection hv with hv _ hc;injection hv with hv;injection hv with hv;subst hv;subst hc;have hle:k*size≤n*size:=Nat.mul_le_mul_right _ hk;refine⟨by rw[List.length_take,ho.1];omega,.inr ⟨g,cap,cur,rfl,hbg,hgg,by omega,h2,h3,?_⟩⟩;rw[←h4,List.take_take,Nat.min_eq_left hle]
theorem b2B{v:Value}(ho:w.ownsRow base e size v n xs)(hn:0<n):∃g cap,v=.slice (some ⟨g,0,none⟩) n cap∧base≤g∧n≤cap∧cap≤maxLen∧(∀i u,xs[i]? = some u→w.cell? ⟨g,i,none⟩=some u)∧∃cur,Blk w g e cur:=by
 rcases ho.2 with⟨_,h⟩ | ⟨g,cap,cur,rfl,hbg,hgg,h1,h2,h3,h4⟩
 ·omega
 ·refine⟨g,cap,rfl,hbg,h1,h2,fun i u hu=>?_,cur,hgg⟩;have hb:Blk w g e cur:=hgg;refine hb.cell ?_;rw[←h4,List.getElem?_take] at hu;split at hu
  ·simpa using hu
  ·cases hu
end
abbrev TKT:TypeId:=122
abbrev FRT:TypeId:=125
abbrev MCT:TypeId:=118
def c4N:PC:=.mk 0 0 0 (.mk 0 0 []) (.mk 0 0 []) [] [] []
def Tk.pc:Tk→PC
 | .cmd x _=>x
 | .back=>c4N
def Tk.no:Tk→Int
 | .cmd _ a=>a
 | .back=>0
def Tk.isB:Tk→Bool
 | .cmd _ _=>false
 | .back=>true
def TkR(w0:World)(t:Tk)(cs:List Value):Prop:=∃c,PCR w0 t.pc c∧cs=c++[.int .i64 t.no,.bool false,.bool t.isB]
theorem b9G(k:Int)(w:World):Calls Try.prog 107 #[.int .i64 k] w fun r w'=>r=.returned (.int .i64 (b1B k))∧Bel w w':=by
 by_cases h:1≤k∧k≤10
 ·have hk:k=1∨k=2∨k=3∨k=4∨k=5∨k=6∨k=7∨k=8∨k=9∨k=10:=by omega
  clear h;rcases hk with rfl | rfl | rfl | rfl | rfl | rfl | rfl | rfl | rfl | rfl
  all_goals
   go_enter Try.func107,Try.ntmps107;go_wp2_with fail
   refine(b1S _ _ _ _).mono ?_;rintro r w1 ⟨rfl,rfl⟩;go_wp2;go_ret;exact⟨rfl,by repeat (first | exact Bel.rfl_ _ | apply Bel.al)⟩
 ·have e:Hid (b1B k=-1):=Lib.hid (by unfold b1B;rw[if_pos (by omega)]);have d:decide (1≤k∧k≤10)=false:=decide_eq_false h;go_enter Try.func107,Try.ntmps107;go_wp2_with fail
  refine(b1S _ _ _ _).mono ?_;rintro r w1 ⟨rfl,rfl⟩;rw[d];clear h d;go_wp2;go_ret;exact⟨by rw[e.out];rfl,Bel.rfl_ _⟩
def b9q(w0 w:World)(l:List PE)(r:Ending)(w':World):Prop:=∃v cells,r=.returned v∧w'.ownsRow w.heap.size 47 3 v l.length cells∧(∀u∈cells,u.oneCell'=true)∧(∀(i:Nat) (x:PE),l[i]? = some x→PER w0 x ((cells.drop (i*3)).take 3))∧Bel w w'
theorem b1r(w:World)(o:Obj):(w.alloc o).heap.size=w.heap.size+1:=by simp
theorem b6t{w:World}{base base' size n:Nat}{e:TypeId}{v:Value}{xs:List Value}(h:w.ownsRow base e size v n xs)(hb:base'≤base):w.ownsRow base' e size v n xs:=by
 refine⟨h.1,?_⟩;rcases h.2 with hn | ⟨g,cap,cur,h1,h2,h3⟩
 ·exact .inl hn
 ·exact .inr ⟨g,cap,cur,h1,by omega,h3⟩
theorem b6e:∀(a b:List PE),b3w (a++b)=b3w a++b3w b
 | [],b=>by rw[b3w];rfl
 | x::a,b=>by rw[List.cons_append,b3w,b3w,b6e a b,List.append_assoc]
theorem b7M{l:List PE}{j:Nat}{q:PE}(h:l[j]? = some q):b3w (l.take (j+1))=b3w (l.take j)++q.all:=by
 rw[List.take_add_one,h,b6e]
 congr 1
 show b3w [q]=q.all;rw[b3w,b3w,List.append_nil]
theorem c2f{l:List PE}{j:Nat}{q:PE}(h:l[j]? = some q):(b3w (l.take j)).length+q.all.length≤(b3w l).length:=by
 have:b3w l=b3w (l.take (j+1))++b3w (l.drop (j+1)):=by rw[←b6e,List.take_append_drop]
 rw[this,b7M h];simp
theorem PE.all_eq(k n:Int)(args:List PE):(PE.mk k n args).all=.mk k n args::b3w args:=by rw[PE.all]
theorem b6J{a b:List Value}{n i:Nat}(ha:a.length=n*3)(hi:i<n):((a++b).drop (i*3)).take 3=(a.drop (i*3)).take 3:=by
 rw[List.drop_append_of_le_length (by omega),List.take_append_of_le_length (by rw[List.length_drop];omega)]
theorem b5T{a b:List Value}{n i:Nat}(ha:a.length=n*3)(hi:n≤i):((a++b).drop (i*3)).take 3=(b.drop ((i-n)*3)).take 3:=by
 rw[List.drop_append,List.drop_of_length_le (by omega),List.nil_append,ha]
 congr 2
 omega
theorem c1P(w0:World)(k n:Int)(args:List PE)(h15:(PE.mk k n args).all.length≤15)(IH:∀x∈args,∀(val:Value) (W:World),x.all.length≤15→PEV w0 x val→Bel w0 W→Calls Try.prog 106 #[val] W fun r w'=>b9q w0 W x.all r w')
  (val:Value) (w:World) (h:PEV w0 (.mk k n args) val) (hb0:Bel w0 w) :
  Calls Try.prog 106 #[val] w fun r w'=>b9q w0 w (PE.mk k n args).all r w':=by
 obtain⟨v,rfl,hv⟩:=h;obtain⟨A,c,rfl,hc,hm,hA⟩:=id hv;have HI:=Lib.hid IH;have HA:=Lib.hid hA;have HV:Hid (PER w0 (.mk k n args) [.int .i64 k,.int .i64 n,.slice A args.length c]):=Lib.hid (PER.shut hv);have HB0:=Lib.hid hb0;rw[PE.all_eq] at h15 ⊢;have hlm:args.length≤9223372036854775807:=by have:=hm.1;simp only[maxLen] at this;simp only[PE.args] at hc;omega
 simp only[PE.kind,PE.n,PE.args] at HA hc ⊢;clear hm IH hA hv hb0;have h14:(b3w args).length≤14:=by simp at h15;omega
 clear h15;go_enter Try.func106,Try.ntmps106;go_wp2;go_loopw [3,4] (fun v i wr=>∃(j:Nat) (cells:List Value),i=.int .i64 j∧j≤args.length∧Hid (wr.ownsRow (w.heap.size+1) 47 3 v (1+(b3w (args.take j)).length) cells)∧Hid (∀u∈cells,u.oneCell'=true)∧Hid (∀(i:Nat) (x:PE),(PE.mk k n args::b3w (args.take j))[i]? = some x→PER w0 x ((cells.drop (i*3)).take 3))∧Hid (Bel w wr)∧Hid (Blk wr w.heap.size 47 #[.int .i64 k,.int .i64 n,.slice A args.length c])) (fun _ i _=>args.length-(intOf i).toNat)
 case atStart =>
  refine⟨0,[.int .i64 k,.int .i64 n,.slice A args.length c],rfl,by omega,?_,?_,?_,((Bel.rfl_ w).al _).al _,?_⟩
  ·rw[List.take_zero,b3w];refine⟨rfl,.inr ⟨w.heap.size+1,1,#[.int .i64 k,.int .i64 n,.slice A args.length c],rfl,Nat.le_refl _,?_,by decide,by decide,rfl,rfl⟩⟩;have:=Blk.new (w.alloc (.cells #[.int .i64 k,.int .i64 n,.slice A args.length c] 47)) 47 #[.int .i64 k,.int .i64 n,.slice A args.length c];rw[b1r] at this;exact this
  ·intro u hu;simp at hu;rcases hu with rfl | rfl | rfl<;>rfl
  ·intro i x hx;rw[List.take_zero,b3w] at hx;have h0:i=0:=by have:=(List.getElem?_eq_some_iff.1 hx).1;simp at this;omega
   subst h0;obtain rfl:=Option.some.inj hx;exact HV.out
  ·exact(Blk.new w _ _).keep ((Bel.rfl_ _).al _)
 case round =>
  obtain⟨j,cells,rfl,hj,HO,HC1,HR,HB,HK⟩:=hrel;have z2:=HK.out.cell (i:=2) (v:=.slice A args.length c) rfl;by_cases hlt:j<args.length
  ·obtain⟨q,hq⟩:∃e,args[j]? = some e:=⟨_,List.getElem?_eq_getElem hlt⟩;obtain⟨b,o,rfl,hA⟩:=HA.out (by omega);have HBW:=Lib.hid (HB0.out.tr HB.out);obtain⟨B,mm,cc,hs,y0,y1,y2⟩:=peR.cells hA hq;have y0:=HBW.out.cell y0;have y1:=HBW.out.cell y1;have y2:=HBW.out.cell y2;have HQ:=Lib.hid hq;have hle:=c2f hq;have HC:=Lib.hid (fun W (hb:Bel w0 W)=>HI.out q (List.mem_of_getElem? hq) (.agg #[.int .i64 q.kind,.int .i64 q.n,.slice B mm cc]) W (by omega) ⟨_,rfl,hs⟩ hb);clear hq hs hA HA;have HT:=Lib.hid (b7M HQ.out);obtain⟨lq,hlq⟩:∃l,q.all=l:=⟨_,rfl⟩;rw[hlq] at HC HT hle;obtain⟨la,hla⟩:∃l,b3w (args.take j)=l:=⟨_,rfl⟩;rw[hla] at HT hle HO HR;clear hlq hla;generalize q.kind=qk at *;generalize q.n=qn at *;go_wp2_with fail
   refine(HC.out _ HBW.out).mono ?_;rintro e w3 ⟨v3,cells3,rfl,hown3,hone3,hper3,hb3⟩;have HB3:=Lib.hid hb3;have HO3:=Lib.hid (hb3.own HO.out);have HN3:=Lib.hid hown3;have HP3:=Lib.hid hper3;have HU3:=Lib.hid hone3;have hlq0:0<lq.length∨lq.length=0:=by omega
   obtain⟨A3,c3,rfl,h3N,h3C⟩:∃A c,v3=.slice A lq.length c∧(A=none→c=0)∧(0<lq.length→∃b off,A=some ⟨b,off,none⟩∧b1D w3 b off cells3):=by
    rcases Nat.eq_zero_or_pos lq.length with h0 | h0
    ·rcases hown3.2 with⟨rfl,_⟩ | ⟨g,cap,cur,rfl,_⟩
     ·exact⟨none,0,by rw[h0],fun _=>rfl,fun h=>by omega⟩
     ·exact⟨_,_,rfl,(fun h=>by cases h),fun h=>absurd h (by omega)⟩
    ·obtain⟨g,cap,rfl,-,-,-,hcell,-⟩:=b2B hown3 h0;exact⟨_,_,rfl,(fun h=>by cases h),fun _=>⟨g,0,rfl,fun j u hu=>by rw[Nat.zero_add];exact hcell j u hu⟩⟩
   have H3N:=Lib.hid h3N;have H3C:=Lib.hid h3C;have H3L:=Lib.hid hown3.1;have HSZ:=Lib.hid (Nat.le_trans (Blk.lt HK.out) hb3.size);clear h3N h3C hown3 hone3 hper3 hb3 hlq0;go_wp2_with (at_builtin;refine b4u w3 rfl (.tmp 14) (.tmp 20) 45 rfl (w.heap.size+1) b3x _ (1+la.length) cells rfl HO3.out A3 lq.length c3 cells3 rfl H3L.out H3N.out H3C.out HU3.out (by simp only[maxLen];omega) (by omega) (by have:=HSZ.out;omega) ?_;intro v4 w4 hown4 hg4 _;have HO4:=Lib.hid hown4;have HG4:=Lib.hid hg4;clear hown4 hg4)
   go_roundw
   case rel =>
    refine⟨j+1,cells++cells3,by go_num,by omega,?_,?_,?_,?_,?_⟩
    ·rw[HT.out,List.length_append,←Nat.add_assoc];exact HO4.out
    ·intro u hu;rcases List.mem_append.1 hu with hu | hu
     ·exact HC1.out u hu
     ·exact HU3.out u hu
    ·intro i x hx;rw[HT.out,←List.cons_append] at hx;have hcl:cells.length=(1+la.length)*3:=HO3.out.1;rcases Nat.lt_or_ge i (1+la.length) with hi | hi
     ·rw[List.getElem?_append_left (by simp;omega)] at hx;rw[b6J hcl hi];exact HR.out i x hx
     ·rw[List.getElem?_append_right (by simp;omega)] at hx;rw[b5T hcl hi];refine HP3.out _ x ?_;rw[←hx]
      congr 1
      simp;omega
    ·exact Bel.trB (HB.out.tr HB3.out) (Bel.rfl_ _) (Nat.le_trans HB.out.size HB3.out.size) |>.grown HG4.out (Nat.le_trans HB.out.size HB3.out.size) (fun k hk=>by have:=(HO3.out.lt k hk).1;omega)
    ·have hk3:=HK.out.keep HB3.out;exact(HG4.out.block _ hk3.lt (fun he=>by have:=(HO3.out.lt _ he.symm).1;omega)).trans hk3
   case measure=>simp[intOf];omega
  ·have hjl:j=args.length:=by omega
   subst hjl;go_wp2;go_ret;refine⟨_,cells,rfl,?_,HC1.out,?_,HB.out⟩
   ·have:=HO.out;rw[List.take_length,Nat.add_comm 1] at this;exact b6t (base:=w.heap.size+1) this (by omega)
   ·have:=HR.out;rw[List.take_length] at this;exact this
theorem b7N(w0:World):∀(e:PE) (val:Value) (w:World),e.all.length≤15→PEV w0 e val→Bel w0 w→Calls Try.prog 106 #[val] w fun r w'=>b9q w0 w e.all r w':=
 PE.ind fun k n args ih val w h15 h hb=>c1P w0 k n args h15 (fun x hx val W h1 h2 h3=>ih x hx val W h1 h2 h3) val w h hb
end Go.Proofs.Ytgkpplbomciehaa
