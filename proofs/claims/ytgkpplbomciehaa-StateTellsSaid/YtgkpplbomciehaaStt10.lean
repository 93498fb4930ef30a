/- The names of a command, by the program: walked. Each lemma states its own conditions. -/
import Derived.Test.YtgkpplbomciehaaStt09
import Derived.Lib.AppendZeros
namespace Go.Proofs.Ytgkpplbomciehaa
set_option maxRecDepth 20000
set_option maxHeartbeats 16000000
open Go.RowKit
def b6q(z:List Int)(calls:Int)(x:PC):Int:=
 if(x.kind≤4∧¬(0≤x.var∧x.var<z.length))∨(x.kind=3∧¬(0≤x.fn∧x.fn<calls)) then 5
 else if x.kind≤4∧(0<z.getD x.var.toNat 0∧x.kind≠2∨z.getD x.var.toNat 0=0∧x.kind=2) then 7
 else if(4<x.kind∧x.var≠0)∨(x.kind≠3∧x.fn≠0) then 1 else 0
theorem c0b(w0 w:World)(ps:List PF)(f:PF)(calls:Int)(g:Nat)(x:PC)(cs:List Value)(h:c2N w0 w ps f calls g)(hb0:Bel w0 w)(hz0:∀n∈f.sizes,0≤n)(hx:PCR w0 x cs) :
  Calls Try.prog 153 #[.pointer (some ⟨g,0,none⟩),.agg cs.toArray] w fun r w'=>r=.returned (.int .i64 (b6q f.sizes calls x))∧Bel w w':=by
 obtain⟨vp,vz,vc,vr,hbk,-,hz,hc,hr⟩:=h.cells;obtain⟨vi,ve,va,vt,vs,rfl,hsi,hse,hsa,hst,hsl⟩:=b1Z hx;have HZ:=Lib.hid (hz.keep hb0);obtain⟨Az,cz,rfl,hlz⟩:=b0R hz;obtain⟨Ac,cc,rfl,-⟩:=b0R hc;obtain⟨Ar,cr,rfl,-⟩:=b0R hr;have HP:Hid (b6q f.sizes calls x=if(x.kind≤4∧¬(0≤x.var∧x.var<f.sizes.length))∨(x.kind=3∧¬(0≤x.fn∧x.fn<calls)) then 5 else if x.kind≤4∧(0<f.sizes.getD x.var.toNat 0∧x.kind≠2∨f.sizes.getD x.var.toNat 0=0∧x.kind=2) then 7 else if(4<x.kind∧x.var≠0)∨(x.kind≠3∧x.fn≠0) then 1 else 0):=Lib.hid rfl;have HZ0:=Lib.hid hz0;have HBK:=Lib.hid hbk;clear h hbk hz hc hr hx hb0 hz0 hsi hse hsa hst hsl;generalize b6q f.sizes calls x=T at *;generalize x.index.kind=ik at *;generalize x.index.n=iN at *;generalize x.expr.kind=ek at *;generalize x.expr.n=eN at *;generalize x.kind=k at *;generalize x.var=vv at *;generalize x.fn=xf at *;generalize f.result.kind=rk at *;generalize f.result.n=rn at *;generalize hL:f.sizes.length=L at *;generalize f.params=P at *;by_cases h4:k≤4
 ·have e4:decide (k≤4)=true:=decide_eq_true h4;by_cases hv0:vv<0
  ·have dv0:decide (vv<0)=true:=decide_eq_true hv0;have HR:Hid (T=5):=Lib.hid (by rw[HP.out];rw[if_pos (Or.inl ⟨h4,by omega⟩)]);have q7:=(HBK.out.keep ((Bel.rfl_ w).al (.cells #[.int .i64 k,.int .i64 vv,.int .i64 xf,.int .i64 ik,.int .i64 iN,vi,.int .i64 ek,.int .i64 eN,ve,va,vt,vs] 120))).cell (i:=7) (v:=.int .i64 calls) rfl;have q2:=(HBK.out.keep ((Bel.rfl_ w).al (.cells #[.int .i64 k,.int .i64 vv,.int .i64 xf,.int .i64 ik,.int .i64 iN,vi,.int .i64 ek,.int .i64 eN,ve,va,vt,vs] 120))).cell (i:=2) (v:=.slice Az L cz) rfl;clear h4 hv0 HP;go_enter Try.func153,Try.ntmps153;go_wp2;go_quiet (fail)
   go_wp2;go_quiet (fail)
   go_wp2
   all_goals try go_quiet (fail)
   all_goals try go_wp2
   go_ret;exact⟨by rw[HR.out];rfl,by repeat (first | exact Bel.rfl_ _ | apply Bel.drN | apply Bel.dr | apply Bel.al)⟩
  have dv0:decide (vv<0)=false:=decide_eq_false hv0;by_cases hv1:vv≥(L:Int)
  ·have dv1:decide (vv≥(L:Int))=true:=decide_eq_true hv1;have HR:Hid (T=5):=Lib.hid (by rw[HP.out];rw[if_pos (Or.inl ⟨h4,by omega⟩)]);have q7:=(HBK.out.keep ((Bel.rfl_ w).al (.cells #[.int .i64 k,.int .i64 vv,.int .i64 xf,.int .i64 ik,.int .i64 iN,vi,.int .i64 ek,.int .i64 eN,ve,va,vt,vs] 120))).cell (i:=7) (v:=.int .i64 calls) rfl;have q2:=(HBK.out.keep ((Bel.rfl_ w).al (.cells #[.int .i64 k,.int .i64 vv,.int .i64 xf,.int .i64 ik,.int .i64 iN,vi,.int .i64 ek,.int .i64 eN,ve,va,vt,vs] 120))).cell (i:=2) (v:=.slice Az L cz) rfl;clear h4 hv0 hv1 HP;go_enter Try.func153,Try.ntmps153;go_wp2;go_quiet (fail)
   go_wp2;go_quiet (fail)
   go_wp2
   all_goals try go_quiet (fail)
   all_goals try go_wp2
   go_ret;exact⟨by rw[HR.out];rfl,by repeat (first | exact Bel.rfl_ _ | apply Bel.drN | apply Bel.dr | apply Bel.al)⟩
  have dv1:decide (vv≥(L:Int))=false:=decide_eq_false hv1;obtain⟨u,hu⟩:∃u,f.sizes[vv.toNat]? = some u:=⟨_,List.getElem?_eq_getElem (by omega)⟩;have hu0:=HZ0.out u (List.mem_of_getElem? hu);have hgu:f.sizes.getD vv.toNat 0=u:=by rw[List.getD_eq_getElem?_getD,hu];rfl
  rw[hgu] at HP;obtain⟨b,o,rfl,hA⟩:=HZ.out.lies (by omega);have cx:=b2l.cell hA hu;have i0:0≤vv:=by omega
  have i1:vv<L:=by omega
  clear hA hu hgu HZ HZ0;by_cases k3:k=3
  ·have e3:(k==3)=true:=by rw[k3];rfl
   have e2:(k==2)=false:=by rw[k3];rfl
   by_cases hf0:xf<0
   ·have df0:decide (xf<0)=true:=decide_eq_true hf0;have HR:Hid (T=5):=Lib.hid (by rw[HP.out];rw[if_pos (Or.inr ⟨k3,by omega⟩)]);have q7:=(HBK.out.keep ((Bel.rfl_ w).al (.cells #[.int .i64 k,.int .i64 vv,.int .i64 xf,.int .i64 ik,.int .i64 iN,vi,.int .i64 ek,.int .i64 eN,ve,va,vt,vs] 120))).cell (i:=7) (v:=.int .i64 calls) rfl;have q2:=(HBK.out.keep ((Bel.rfl_ w).al (.cells #[.int .i64 k,.int .i64 vv,.int .i64 xf,.int .i64 ik,.int .i64 iN,vi,.int .i64 ek,.int .i64 eN,ve,va,vt,vs] 120))).cell (i:=2) (v:=.slice (some ⟨b,o,none⟩) L cz) rfl;clear h4 k3 hv0 hv1 hf0 HP;go_enter Try.func153,Try.ntmps153;go_wp2;go_quiet (fail)
    go_wp2;go_quiet (fail)
    go_wp2
    all_goals try go_quiet (fail)
    all_goals try go_wp2
    go_ret;exact⟨by rw[HR.out];rfl,by repeat (first | exact Bel.rfl_ _ | apply Bel.drN | apply Bel.dr | apply Bel.al)⟩
   have df0:decide (xf<0)=false:=decide_eq_false hf0;by_cases hf1:xf≥calls
   ·have df1:decide (xf≥calls)=true:=decide_eq_true hf1;have HR:Hid (T=5):=Lib.hid (by rw[HP.out];rw[if_pos (Or.inr ⟨k3,by omega⟩)]);have q7:=(HBK.out.keep ((Bel.rfl_ w).al (.cells #[.int .i64 k,.int .i64 vv,.int .i64 xf,.int .i64 ik,.int .i64 iN,vi,.int .i64 ek,.int .i64 eN,ve,va,vt,vs] 120))).cell (i:=7) (v:=.int .i64 calls) rfl;have q2:=(HBK.out.keep ((Bel.rfl_ w).al (.cells #[.int .i64 k,.int .i64 vv,.int .i64 xf,.int .i64 ik,.int .i64 iN,vi,.int .i64 ek,.int .i64 eN,ve,va,vt,vs] 120))).cell (i:=2) (v:=.slice (some ⟨b,o,none⟩) L cz) rfl;clear h4 k3 hv0 hv1 hf0 hf1 HP;go_enter Try.func153,Try.ntmps153;go_wp2;go_quiet (fail)
    go_wp2;go_quiet (fail)
    go_wp2
    all_goals try go_quiet (fail)
    all_goals try go_wp2
    go_ret;exact⟨by rw[HR.out];rfl,by repeat (first | exact Bel.rfl_ _ | apply Bel.drN | apply Bel.dr | apply Bel.al)⟩
   have df1:decide (xf≥calls)=false:=decide_eq_false hf1;by_cases hu1:u > 0
   ·have du:decide (u > 0)=true:=decide_eq_true hu1;have HR:Hid (T=7):=Lib.hid (by rw[HP.out];rw[if_neg (by omega),if_pos (by omega)]);have q7:=(HBK.out.keep ((Bel.rfl_ w).al (.cells #[.int .i64 k,.int .i64 vv,.int .i64 xf,.int .i64 ik,.int .i64 iN,vi,.int .i64 ek,.int .i64 eN,ve,va,vt,vs] 120))).cell (i:=7) (v:=.int .i64 calls) rfl;have q2:=(HBK.out.keep ((Bel.rfl_ w).al (.cells #[.int .i64 k,.int .i64 vv,.int .i64 xf,.int .i64 ik,.int .i64 iN,vi,.int .i64 ek,.int .i64 eN,ve,va,vt,vs] 120))).cell (i:=2) (v:=.slice (some ⟨b,o,none⟩) L cz) rfl;have cx2:=((Bel.rfl_ w).al (.cells #[.int .i64 k,.int .i64 vv,.int .i64 xf,.int .i64 ik,.int .i64 iN,vi,.int .i64 ek,.int .i64 eN,ve,va,vt,vs] 120)).cell cx;clear h4 k3 hv0 hv1 hf0 hf1 hu1 hu0 HP;go_enter Try.func153,Try.ntmps153;go_wp2;go_quiet (fail)
    go_wp2;go_quiet (fail)
    go_wp2
    all_goals try go_quiet (fail)
    all_goals try go_wp2
    go_ret;exact⟨by rw[HR.out];rfl,by repeat (first | exact Bel.rfl_ _ | apply Bel.drN | apply Bel.dr | apply Bel.al)⟩
   ·have du:decide (u > 0)=false:=decide_eq_false hu1;have HR:Hid (T=0):=Lib.hid (by rw[HP.out];rw[if_neg (by omega),if_neg (by omega),if_neg (by omega)]);have q7:=(HBK.out.keep ((Bel.rfl_ w).al (.cells #[.int .i64 k,.int .i64 vv,.int .i64 xf,.int .i64 ik,.int .i64 iN,vi,.int .i64 ek,.int .i64 eN,ve,va,vt,vs] 120))).cell (i:=7) (v:=.int .i64 calls) rfl;have q2:=(HBK.out.keep ((Bel.rfl_ w).al (.cells #[.int .i64 k,.int .i64 vv,.int .i64 xf,.int .i64 ik,.int .i64 iN,vi,.int .i64 ek,.int .i64 eN,ve,va,vt,vs] 120))).cell (i:=2) (v:=.slice (some ⟨b,o,none⟩) L cz) rfl;have cx2:=((Bel.rfl_ w).al (.cells #[.int .i64 k,.int .i64 vv,.int .i64 xf,.int .i64 ik,.int .i64 iN,vi,.int .i64 ek,.int .i64 eN,ve,va,vt,vs] 120)).cell cx;clear h4 k3 hv0 hv1 hf0 hf1 hu1 hu0 HP;go_enter Try.func153,Try.ntmps153;go_wp2;go_quiet (fail)
    go_wp2;go_quiet (fail)
    go_wp2
    all_goals try go_quiet (fail)
    all_goals try go_wp2
    go_ret;exact⟨by rw[HR.out];rfl,by repeat (first | exact Bel.rfl_ _ | apply Bel.drN | apply Bel.dr | apply Bel.al)⟩
  have e3:(k==3)=false:=by simpa using k3
  by_cases k2:k=2
  ·have e2:(k==2)=true:=by rw[k2];rfl
   by_cases hu1:u > 0
   ·have du:decide (u > 0)=true:=decide_eq_true hu1;by_cases hf:xf=0
    ·have df:(xf != 0)=false:=by rw[hf];rfl
     have HR:Hid (T=0):=Lib.hid (by rw[HP.out];rw[if_neg (by omega),if_neg (by omega),if_neg (by omega)]);have q7:=(HBK.out.keep ((Bel.rfl_ w).al (.cells #[.int .i64 k,.int .i64 vv,.int .i64 xf,.int .i64 ik,.int .i64 iN,vi,.int .i64 ek,.int .i64 eN,ve,va,vt,vs] 120))).cell (i:=7) (v:=.int .i64 calls) rfl;have q2:=(HBK.out.keep ((Bel.rfl_ w).al (.cells #[.int .i64 k,.int .i64 vv,.int .i64 xf,.int .i64 ik,.int .i64 iN,vi,.int .i64 ek,.int .i64 eN,ve,va,vt,vs] 120))).cell (i:=2) (v:=.slice (some ⟨b,o,none⟩) L cz) rfl;have cx2:=((Bel.rfl_ w).al (.cells #[.int .i64 k,.int .i64 vv,.int .i64 xf,.int .i64 ik,.int .i64 iN,vi,.int .i64 ek,.int .i64 eN,ve,va,vt,vs] 120)).cell cx;clear h4 k3 k2 hv0 hv1 hf hu1 hu0 HP;go_enter Try.func153,Try.ntmps153;go_wp2;go_quiet (fail)
     go_wp2;go_quiet (fail)
     go_wp2
     all_goals try go_quiet (fail)
     all_goals try go_wp2
     go_ret;exact⟨by rw[HR.out];rfl,by repeat (first | exact Bel.rfl_ _ | apply Bel.drN | apply Bel.dr | apply Bel.al)⟩
    ·have df:(xf != 0)=true:=by simpa using hf
     have HR:Hid (T=1):=Lib.hid (by rw[HP.out];rw[if_neg (by omega),if_neg (by omega),if_pos (by omega)]);have q7:=(HBK.out.keep ((Bel.rfl_ w).al (.cells #[.int .i64 k,.int .i64 vv,.int .i64 xf,.int .i64 ik,.int .i64 iN,vi,.int .i64 ek,.int .i64 eN,ve,va,vt,vs] 120))).cell (i:=7) (v:=.int .i64 calls) rfl;have q2:=(HBK.out.keep ((Bel.rfl_ w).al (.cells #[.int .i64 k,.int .i64 vv,.int .i64 xf,.int .i64 ik,.int .i64 iN,vi,.int .i64 ek,.int .i64 eN,ve,va,vt,vs] 120))).cell (i:=2) (v:=.slice (some ⟨b,o,none⟩) L cz) rfl;have cx2:=((Bel.rfl_ w).al (.cells #[.int .i64 k,.int .i64 vv,.int .i64 xf,.int .i64 ik,.int .i64 iN,vi,.int .i64 ek,.int .i64 eN,ve,va,vt,vs] 120)).cell cx;clear h4 k3 k2 hv0 hv1 hf hu1 hu0 HP;go_enter Try.func153,Try.ntmps153;go_wp2;go_quiet (fail)
     go_wp2;go_quiet (fail)
     go_wp2
     all_goals try go_quiet (fail)
     all_goals try go_wp2
     go_ret;exact⟨by rw[HR.out];rfl,by repeat (first | exact Bel.rfl_ _ | apply Bel.drN | apply Bel.dr | apply Bel.al)⟩
   ·have du:decide (u > 0)=false:=decide_eq_false hu1;have HR:Hid (T=7):=Lib.hid (by rw[HP.out];rw[if_neg (by omega),if_pos (by omega)]);have q7:=(HBK.out.keep ((Bel.rfl_ w).al (.cells #[.int .i64 k,.int .i64 vv,.int .i64 xf,.int .i64 ik,.int .i64 iN,vi,.int .i64 ek,.int .i64 eN,ve,va,vt,vs] 120))).cell (i:=7) (v:=.int .i64 calls) rfl;have q2:=(HBK.out.keep ((Bel.rfl_ w).al (.cells #[.int .i64 k,.int .i64 vv,.int .i64 xf,.int .i64 ik,.int .i64 iN,vi,.int .i64 ek,.int .i64 eN,ve,va,vt,vs] 120))).cell (i:=2) (v:=.slice (some ⟨b,o,none⟩) L cz) rfl;have cx2:=((Bel.rfl_ w).al (.cells #[.int .i64 k,.int .i64 vv,.int .i64 xf,.int .i64 ik,.int .i64 iN,vi,.int .i64 ek,.int .i64 eN,ve,va,vt,vs] 120)).cell cx;clear h4 k3 k2 hv0 hv1 hu1 hu0 HP;go_enter Try.func153,Try.ntmps153;go_wp2;go_quiet (fail)
    go_wp2;go_quiet (fail)
    go_wp2
    all_goals try go_quiet (fail)
    all_goals try go_wp2
    go_ret;exact⟨by rw[HR.out];rfl,by repeat (first | exact Bel.rfl_ _ | apply Bel.drN | apply Bel.dr | apply Bel.al)⟩
  have e2:(k==2)=false:=by simpa using k2
  by_cases hu1:u > 0
  ·have du:decide (u > 0)=true:=decide_eq_true hu1;have HR:Hid (T=7):=Lib.hid (by rw[HP.out];rw[if_neg (by omega),if_pos (by omega)]);have q7:=(HBK.out.keep ((Bel.rfl_ w).al (.cells #[.int .i64 k,.int .i64 vv,.int .i64 xf,.int .i64 ik,.int .i64 iN,vi,.int .i64 ek,.int .i64 eN,ve,va,vt,vs] 120))).cell (i:=7) (v:=.int .i64 calls) rfl;have q2:=(HBK.out.keep ((Bel.rfl_ w).al (.cells #[.int .i64 k,.int .i64 vv,.int .i64 xf,.int .i64 ik,.int .i64 iN,vi,.int .i64 ek,.int .i64 eN,ve,va,vt,vs] 120))).cell (i:=2) (v:=.slice (some ⟨b,o,none⟩) L cz) rfl;have cx2:=((Bel.rfl_ w).al (.cells #[.int .i64 k,.int .i64 vv,.int .i64 xf,.int .i64 ik,.int .i64 iN,vi,.int .i64 ek,.int .i64 eN,ve,va,vt,vs] 120)).cell cx;clear h4 k3 k2 hv0 hv1 hu1 hu0 HP;go_enter Try.func153,Try.ntmps153;go_wp2;go_quiet (fail)
   go_wp2;go_quiet (fail)
   go_wp2
   all_goals try go_quiet (fail)
   all_goals try go_wp2
   go_ret;exact⟨by rw[HR.out];rfl,by repeat (first | exact Bel.rfl_ _ | apply Bel.drN | apply Bel.dr | apply Bel.al)⟩
  have du:decide (u > 0)=false:=decide_eq_false hu1;by_cases hf:xf=0
  ·have df:(xf != 0)=false:=by rw[hf];rfl
   have HR:Hid (T=0):=Lib.hid (by rw[HP.out];rw[if_neg (by omega),if_neg (by omega),if_neg (by omega)]);have q7:=(HBK.out.keep ((Bel.rfl_ w).al (.cells #[.int .i64 k,.int .i64 vv,.int .i64 xf,.int .i64 ik,.int .i64 iN,vi,.int .i64 ek,.int .i64 eN,ve,va,vt,vs] 120))).cell (i:=7) (v:=.int .i64 calls) rfl;have q2:=(HBK.out.keep ((Bel.rfl_ w).al (.cells #[.int .i64 k,.int .i64 vv,.int .i64 xf,.int .i64 ik,.int .i64 iN,vi,.int .i64 ek,.int .i64 eN,ve,va,vt,vs] 120))).cell (i:=2) (v:=.slice (some ⟨b,o,none⟩) L cz) rfl;have cx2:=((Bel.rfl_ w).al (.cells #[.int .i64 k,.int .i64 vv,.int .i64 xf,.int .i64 ik,.int .i64 iN,vi,.int .i64 ek,.int .i64 eN,ve,va,vt,vs] 120)).cell cx;clear h4 k3 k2 hv0 hv1 hf hu1 hu0 HP;go_enter Try.func153,Try.ntmps153;go_wp2;go_quiet (fail)
   go_wp2;go_quiet (fail)
   go_wp2
   all_goals try go_quiet (fail)
   all_goals try go_wp2
   go_ret;exact⟨by rw[HR.out];rfl,by repeat (first | exact Bel.rfl_ _ | apply Bel.drN | apply Bel.dr | apply Bel.al)⟩
  ·have df:(xf != 0)=true:=by simpa using hf
   have HR:Hid (T=1):=Lib.hid (by rw[HP.out];rw[if_neg (by omega),if_neg (by omega),if_pos (by omega)]);have q7:=(HBK.out.keep ((Bel.rfl_ w).al (.cells #[.int .i64 k,.int .i64 vv,.int .i64 xf,.int .i64 ik,.int .i64 iN,vi,.int .i64 ek,.int .i64 eN,ve,va,vt,vs] 120))).cell (i:=7) (v:=.int .i64 calls) rfl;have q2:=(HBK.out.keep ((Bel.rfl_ w).al (.cells #[.int .i64 k,.int .i64 vv,.int .i64 xf,.int .i64 ik,.int .i64 iN,vi,.int .i64 ek,.int .i64 eN,ve,va,vt,vs] 120))).cell (i:=2) (v:=.slice (some ⟨b,o,none⟩) L cz) rfl;have cx2:=((Bel.rfl_ w).al (.cells #[.int .i64 k,.int .i64 vv,.int .i64 xf,.int .i64 ik,.int .i64 iN,vi,.int .i64 ek,.int .i64 eN,ve,va,vt,vs] 120)).cell cx;clear h4 k3 k2 hv0 hv1 hf hu1 hu0 HP;go_enter Try.func153,Try.ntmps153;go_wp2;go_quiet (fail)
   go_wp2;go_quiet (fail)
   go_wp2
   all_goals try go_quiet (fail)
   all_goals try go_wp2
   go_ret;exact⟨by rw[HR.out];rfl,by repeat (first | exact Bel.rfl_ _ | apply Bel.drN | apply Bel.dr | apply Bel.al)⟩
 have e4:decide (k≤4)=false:=decide_eq_false h4;have e3:(k==3)=false:=by simp;omega
 by_cases hv:vv=0
 ·have dv:(vv != 0)=false:=by rw[hv];rfl
  by_cases hf:xf=0
  ·have df:(xf != 0)=false:=by rw[hf];rfl
   have HR:Hid (T=0):=Lib.hid (by rw[HP.out];rw[if_neg (by omega),if_neg (by omega),if_neg (by omega)]);have q7:=(HBK.out.keep ((Bel.rfl_ w).al (.cells #[.int .i64 k,.int .i64 vv,.int .i64 xf,.int .i64 ik,.int .i64 iN,vi,.int .i64 ek,.int .i64 eN,ve,va,vt,vs] 120))).cell (i:=7) (v:=.int .i64 calls) rfl;have q2:=(HBK.out.keep ((Bel.rfl_ w).al (.cells #[.int .i64 k,.int .i64 vv,.int .i64 xf,.int .i64 ik,.int .i64 iN,vi,.int .i64 ek,.int .i64 eN,ve,va,vt,vs] 120))).cell (i:=2) (v:=.slice Az L cz) rfl;clear h4 hv hf HZ HZ0 HP;go_enter Try.func153,Try.ntmps153;go_wp2;go_quiet (fail)
   go_wp2;go_quiet (fail)
   go_wp2
   all_goals try go_quiet (fail)
   all_goals try go_wp2
   go_ret;exact⟨by rw[HR.out];rfl,by repeat (first | exact Bel.rfl_ _ | apply Bel.drN | apply Bel.dr | apply Bel.al)⟩
  ·have df:(xf != 0)=true:=by simpa using hf
   have HR:Hid (T=1):=Lib.hid (by rw[HP.out];rw[if_neg (by omega),if_neg (by omega),if_pos (by omega)]);have q7:=(HBK.out.keep ((Bel.rfl_ w).al (.cells #[.int .i64 k,.int .i64 vv,.int .i64 xf,.int .i64 ik,.int .i64 iN,vi,.int .i64 ek,.int .i64 eN,ve,va,vt,vs] 120))).cell (i:=7) (v:=.int .i64 calls) rfl;have q2:=(HBK.out.keep ((Bel.rfl_ w).al (.cells #[.int .i64 k,.int .i64 vv,.int .i64 xf,.int .i64 ik,.int .i64 iN,vi,.int .i64 ek,.int .i64 eN,ve,va,vt,vs] 120))).cell (i:=2) (v:=.slice Az L cz) rfl;clear h4 hv hf HZ HZ0 HP;go_enter Try.func153,Try.ntmps153;go_wp2;go_quiet (fail)
   go_wp2;go_quiet (fail)
   go_wp2
   all_goals try go_quiet (fail)
   all_goals try go_wp2
   go_ret;exact⟨by rw[HR.out];rfl,by repeat (first | exact Bel.rfl_ _ | apply Bel.drN | apply Bel.dr | apply Bel.al)⟩
 ·have dv:(vv != 0)=true:=by simpa using hv
  have HR:Hid (T=1):=Lib.hid (by rw[HP.out];rw[if_neg (by omega),if_neg (by omega),if_pos (by omega)]);have q7:=(HBK.out.keep ((Bel.rfl_ w).al (.cells #[.int .i64 k,.int .i64 vv,.int .i64 xf,.int .i64 ik,.int .i64 iN,vi,.int .i64 ek,.int .i64 eN,ve,va,vt,vs] 120))).cell (i:=7) (v:=.int .i64 calls) rfl;have q2:=(HBK.out.keep ((Bel.rfl_ w).al (.cells #[.int .i64 k,.int .i64 vv,.int .i64 xf,.int .i64 ik,.int .i64 iN,vi,.int .i64 ek,.int .i64 eN,ve,va,vt,vs] 120))).cell (i:=2) (v:=.slice Az L cz) rfl;clear h4 hv HZ HZ0 HP;go_enter Try.func153,Try.ntmps153;go_wp2;go_quiet (fail)
  go_wp2;go_quiet (fail)
  go_wp2
  all_goals try go_quiet (fail)
  all_goals try go_wp2
  go_ret;exact⟨by rw[HR.out];rfl,by repeat (first | exact Bel.rfl_ _ | apply Bel.drN | apply Bel.dr | apply Bel.al)⟩
theorem c1b(n:Nat)(hn:n≤8)(w:World):Calls Try.prog 165 #[.slice none 0 0,.int .i64 n] w fun r w'=>∃v,r=.returned v∧w'.ownsRow w.heap.size 47 3 v 0 []∧Bel w w':=by
 have dn:decide ((n:Int)<0)=false:=decide_eq_false (by omega);rcases Nat.eq_zero_or_pos n with h0 | h0
 ·subst h0;go_enter Try.func165,Try.ntmps165;go_wp2;go_ret;exact⟨_,rfl,World.ownsRow_nil _ _ _ _,Bel.rfl_ _⟩
 ·have dp:decide ((n:Int) > 0)=true:=decide_eq_true (by omega);obtain⟨i,z,hi,hz,hz1,hz2,hz3⟩:=b3x.inf;have hc1:=grownCap_ge w n 0 47;have hc2:=grownCap_le_maxLen w n 0 47 (by simp only[maxLen];omega);have hrun:=fun ty=>Lib.run_append_nil_zeros (P:=Try.prog) w 45 3 ty 47 i z .i64 .i64 b3x.und (by kernel_rfl) hi hz n h0 (by omega) (by omega) (by rw[hz2];omega);generalize hcap:grownCap w n 0 47=cap at *;have HB:Hid (Bel w (w.drew.alloc (.cells (Builtin.zeroCells z.cells n++Builtin.zeroCells z.cells (cap-n)) 47))):=Lib.hid ((Bel.rfl_ w).dr.al _)
  have HO:Hid ((w.drew.alloc (.cells (Builtin.zeroCells z.cells n++Builtin.zeroCells z.cells (cap-n)) 47)).ownsRow w.heap.size 47 3 (.slice (some ⟨w.heap.size,0,none⟩) 0 cap) 0 []):=Lib.hid (by
   refine⟨rfl,.inr ⟨w.heap.size,cap,_,rfl,Nat.le_refl _,heap_alloc_new w.drew _,Nat.zero_le _,hc2,?_,by simp⟩⟩;rw[Array.size_append,size_zeroCells,size_zeroCells,hz3,←Nat.add_mul]
   congr 1
   omega)
  generalize hW:w.drew.alloc (.cells (Builtin.zeroCells z.cells n++Builtin.zeroCells z.cells (cap-n)) 47)=W at *;have hcn:¬cap=0:=by omega
  go_enter Try.func165,Try.ntmps165;go_wp2_with (at_builtin;refine Lib.wpList_append_run _ rfl _ _ _ _ rfl _ _ rfl rfl _ _ (hrun _) ?_)
  go_wp2;go_ret;exact⟨_,rfl,HO.out,HB.out⟩
theorem Sl.flat{α:Type}{r:Rep α}{w:World}{v:Value}{xs:List α}(hone:∀cs x,r.R w cs x→∀u∈cs,u.oneCell'=true)(h:Sl r w v xs):∃A c cells,v=.slice A xs.length c∧(A=none→c=0)∧cells.length=xs.length*r.size∧(∀u∈cells,u.oneCell'=true)∧(0<xs.length→∃b o,A=some ⟨b,o,none⟩∧b1D w b o cells)∧∀i x,xs[i]? = some x→r.R w ((cells.drop (i*r.size)).take r.size) x:=by
 obtain⟨A,c,rfl,-,hm,hA⟩:=h;rcases Nat.eq_zero_or_pos xs.length with h0 | h0
 ·refine⟨A,c,[],rfl,hm.2,by rw[h0,Nat.zero_mul];rfl,fun u hu=>by simp at hu,fun h=>by omega,fun i x hx=>by have:=(List.getElem?_eq_some_iff.1 hx).1;omega⟩
 obtain⟨b,o,rfl,hx⟩:=hA h0
 have key:∀(n:Nat),n≤xs.length→∃cells:List Value,cells.length=n*r.size∧(∀u∈cells,u.oneCell'=true)∧b1D w b o cells∧∀i x,i<n→xs[i]? = some x→r.R w ((cells.drop (i*r.size)).take r.size) x:=by
  intro n;induction n with
  | zero=>intro _;exact⟨[],by simp,fun u hu=>by simp at hu,fun j u hu=>by simp at hu,fun i x hi=>by omega⟩
  | succ n ih =>
   intro hn;obtain⟨cells,h1,h2,h3,h4⟩:=ih (by omega);obtain⟨cs,h5,h6⟩:=hx n _ (List.getElem?_eq_getElem (show n<xs.length by omega));have hl:=r.len h5;refine⟨cells++cs,by rw[List.length_append,h1,hl,Nat.add_mul,Nat.one_mul],fun u hu=>?_,fun j u hu=>?_,fun i x hi hxi=>?_⟩
   ·rcases List.mem_append.1 hu with hu | hu
    ·exact h2 u hu
    ·exact hone _ _ h5 u hu
   ·rcases Nat.lt_or_ge j cells.length with hj | hj
    ·rw[List.getElem?_append_left hj] at hu;exact h3 j u hu
    ·rw[List.getElem?_append_right hj] at hu;have:=h6 _ u hu;rw[h1] at this;rw[show o+j=o+n*r.size+(j-n*r.size) by omega];exact this
   ·rcases Nat.lt_or_ge i n with hin | hin
    ·have hle:(i+1)*r.size≤n*r.size:=Nat.mul_le_mul_right _ hin;rw[Nat.add_mul,Nat.one_mul] at hle;rw[List.drop_append_of_le_length (by omega),List.take_append_of_le_length (by rw[List.length_drop];omega)];exact h4 i x hin hxi
    ·obtain rfl:i=n:=by omega
     rw[←h1,List.drop_left,List.take_of_length_le (by omega)];rw[List.getElem?_eq_getElem (show i<xs.length by omega)] at hxi;obtain rfl:=Option.some.inj hxi;exact h5
 obtain⟨cells,h1,h2,h3,h4⟩:=key xs.length (Nat.le_refl _);exact⟨_,c,cells,rfl,hm.2,h1,h2,fun _=>⟨b,o,rfl,h3⟩,fun i x hxi=>h4 i x (List.getElem?_eq_some_iff.1 hxi).1 hxi⟩
def b9s(w0 w:World)(B:Nat)(v:Value)(xs:List PE):Prop:=∃cells,w.ownsRow B 47 3 v xs.length cells∧(∀u∈cells,u.oneCell'=true)∧∀(i:Nat) (x:PE),xs[i]? = some x→PER w0 x ((cells.drop (i*3)).take 3)
theorem b9s.sl{w0 w:World}{B:Nat}{v:Value}{xs:List PE}(h:b9s w0 w B v xs)(hb:Bel w0 w):Sl peR w v xs:=by
 obtain⟨cells,h1,-,h3⟩:=h;exact Sl.own (r:=peR) h1 rfl fun i x hx=>(h3 i x hx).keep hb
theorem b9s.app{w0 w w':World}{B:Nat}{v v':Value}{xs ys:List PE}{cells news:List Value}(h1:w.ownsRow B 47 3 v xs.length cells)(h2:∀u∈cells,u.oneCell'=true)(h3:∀(i:Nat) (x:PE),xs[i]? = some x→PER w0 x ((cells.drop (i*3)).take 3))
  (n2:∀u∈news,u.oneCell'=true) (n3:∀(i:Nat) (x:PE),ys[i]? = some x→PER w0 x ((news.drop (i*3)).take 3)) (h:w'.ownsRow B 47 3 v' (xs.length+ys.length) (cells++news)):b9s w0 w' B v' (xs++ys):=by
 refine⟨cells++news,by rw[List.length_append];exact h,fun u hu=>?_,fun i x hx=>?_⟩
 ·rcases List.mem_append.1 hu with hu | hu
  ·exact h2 u hu
  ·exact n2 u hu
 ·rcases Nat.lt_or_ge i xs.length with hi | hi
  ·rw[List.getElem?_append_left hi] at hx;rw[b6J h1.1 hi];exact h3 i x hx
  ·rw[List.getElem?_append_right hi] at hx;rw[b5T h1.1 hi];exact n3 _ x hx
theorem b9L(w0 w:World)(G:Nat)(v1 v2:Value)(xs ys:List PE)(c:Nat)(hbk:Blk w G 45 #[v1,v2])(_hc:2≤c∧c≤maxLen)(hb0:Bel w0 w)(h8:xs.length+ys.length≤8)
  (hx:∃A c cells,v1=.slice A xs.length c∧(A=none→c=0)∧cells.length=xs.length*3∧(∀u∈cells,u.oneCell'=true)∧(0<xs.length→∃b o,A=some ⟨b,o,none⟩∧b1D w b o cells)∧∀(i:Nat) (x:PE),xs[i]? = some x→PER w0 x ((cells.drop (i*3)).take 3))
  (hy:∃A c cells,v2=.slice A ys.length c∧(A=none→c=0)∧cells.length=ys.length*3∧(∀u∈cells,u.oneCell'=true)∧(0<ys.length→∃b o,A=some ⟨b,o,none⟩∧b1D w b o cells)∧∀(i:Nat) (x:PE),ys[i]? = some x→PER w0 x ((cells.drop (i*3)).take 3)) :
  Calls Try.prog 155 #[.slice (some ⟨G,0,none⟩) 2 c] w fun r w'=>∃v,r=.returned v∧Sl peR w' v (xs++ys)∧Bel w w':=by
 obtain⟨A1,c1,ce1,rfl,e1,e2,e3,e4,e5⟩:=hx;obtain⟨A2,c2,ce2,rfl,f1,f2,f3,f4,f5⟩:=hy;have x0:=hbk.cell (i:=0) (v:=.slice A1 xs.length c1) rfl;have x1:=hbk.cell (i:=1) (v:=.slice A2 ys.length c2) rfl;have HE:=Lib.hid (And.intro e1 (And.intro e2 (And.intro e3 (And.intro e4 e5))));have HF:=Lib.hid (And.intro f1 (And.intro f2 (And.intro f3 (And.intro f4 f5))));have HG:=Lib.hid (c1b (xs.length+ys.length) h8);have HB0:=Lib.hid hb0;have HBK:=Lib.hid hbk;clear e1 e2 e3 e4 e5 f1 f2 f3 f4 f5 hb0 hbk;go_enter Try.func155,Try.ntmps155;go_wp2;go_loopw [3,11] (fun a i wr=>∃j n:Nat,i=.int .i64 j∧a=.int .i64 n∧Hid (Bel w wr)∧(j=0∧n=0∨j=1∧n=xs.length∨j=2∧n=xs.length+ys.length)) (fun _ i _=>2-(intOf i).toNat)
 case atStart=>exact⟨0,0,rfl,rfl,Bel.rfl_ _,.inl ⟨rfl,rfl⟩⟩
 case round =>
  obtain⟨j,n,rfl,rfl,HW,hj⟩:=hrel;replace x0:=HW.out.cell x0;replace x1:=HW.out.cell x1;rcases hj with⟨rfl,rfl⟩ | ⟨rfl,rfl⟩ | ⟨rfl,rfl⟩
  ·have dn:decide ((xs.length:Int)<0)=false:=decide_eq_false (by omega);go_wp2;go_roundw
   case rel=>exact⟨1,xs.length,by go_num,by go_num,HW,.inr (.inl ⟨rfl,rfl⟩)⟩
   case measure=>simp[intOf]
  ·have dn:decide ((xs.length:Int)+ys.length<0)=false:=decide_eq_false (by omega);go_wp2;go_roundw
   case rel=>exact⟨2,xs.length+ys.length,by go_num,by go_num,HW,.inr (.inr ⟨rfl,rfl⟩)⟩
   case measure=>simp[intOf]
  ·go_wp2_with fail
   refine(HG.out _).mono ?_;rintro r w1 ⟨v,rfl,ho,hb⟩;have HO:=Lib.hid (b6t ho HW.out.size);have HB1:=Lib.hid (HW.out.tr hb);have y0:=hb.cell x0;have y1:=hb.cell x1;clear ho hb x0 x1;go_wp2;go_loopw [6,27] (fun a i wr=>∃j:Nat,i=.int .i64 j∧Hid (Bel w wr)∧(j=0∧Hid (b9s w0 wr w.heap.size a [])∨j=1∧Hid (b9s w0 wr w.heap.size a xs)∨j=2∧Hid (b9s w0 wr w.heap.size a (xs++ys)))) (fun _ i _=>2-(intOf i).toNat)
   case atStart=>exact⟨0,rfl,HB1,.inl ⟨rfl,[],HO.out,fun u hu=>by simp at hu,fun i x hx=>by simp at hx⟩⟩
   case round =>
    obtain⟨j,rfl,HB,hj⟩:=hrel;have z0:=HB.out.cell (HBK.out.cell (i:=0) (v:=.slice A1 xs.length c1) rfl);have z1:=HB.out.cell (HBK.out.cell (i:=1) (v:=.slice A2 ys.length c2) rfl);have hsz:=Lib.hid HB.out.size;clear HO HB1 y0 y1;rcases hj with⟨rfl,HR⟩ | ⟨rfl,HR⟩ | ⟨rfl,HR⟩
    ·obtain⟨cells,h1,h2,h3⟩:=HR.out;have HO:=Lib.hid h1;have H2:=Lib.hid h2;have H3:=Lib.hid h3;clear h1 h2 h3 HR;go_wp2_with (at_builtin;refine b4u wr rfl (.tmp 31) (.tmp 32) 45 rfl w.heap.size b3x _ ([]:List PE).length cells rfl HO.out A1 xs.length c1 ce1 rfl HE.out.2.1 HE.out.1 (fun hp=>(HE.out.2.2.2.1 hp).elim fun b h=>h.elim fun o h=>⟨b,o,h.1,h.2.keep HB.out⟩) HE.out.2.2.1 (by simp only[maxLen,List.length_nil];omega) (by simp only[List.length_nil];omega) hsz.out ?_;intro v4 w4 hown4 hg4 _;have HO4:=Lib.hid hown4;have HG4:=Lib.hid hg4;clear hown4 hg4)
     go_roundw
     case rel=>exact⟨1,by go_num,Lib.hid (Below.grown HB.out HG4.out hsz.out (fun k hk=>by have:=(HO.out.lt k hk).1;omega)),.inr (.inl ⟨rfl,b9s.app (xs:=[]) (ys:=xs) HO.out H2.out H3.out HE.out.2.2.1 HE.out.2.2.2.2 HO4.out⟩)⟩
     case measure=>simp[intOf]
    ·obtain⟨cells,h1,h2,h3⟩:=HR.out;have HO:=Lib.hid h1;have H2:=Lib.hid h2;have H3:=Lib.hid h3;clear h1 h2 h3 HR;go_wp2_with (at_builtin;refine b4u wr rfl (.tmp 31) (.tmp 32) 45 rfl w.heap.size b3x _ xs.length cells rfl HO.out A2 ys.length c2 ce2 rfl HF.out.2.1 HF.out.1 (fun hp=>(HF.out.2.2.2.1 hp).elim fun b h=>h.elim fun o h=>⟨b,o,h.1,h.2.keep HB.out⟩) HF.out.2.2.1 (by simp only[maxLen];omega) (by omega) hsz.out ?_;intro v4 w4 hown4 hg4 _;have HO4:=Lib.hid hown4;have HG4:=Lib.hid hg4;clear hown4 hg4)
     go_roundw
     case rel=>exact⟨2,by go_num,Lib.hid (Below.grown HB.out HG4.out hsz.out (fun k hk=>by have:=(HO.out.lt k hk).1;omega)),.inr (.inr ⟨rfl,b9s.app (xs:=xs) (ys:=ys) HO.out H2.out H3.out HF.out.2.2.1 HF.out.2.2.2.2 HO4.out⟩)⟩
     case measure=>simp[intOf]
    ·go_wp2;go_ret;exact⟨_,rfl,HR.out.sl (HB0.out.tr HB.out),HB.out⟩
end Go.Proofs.Ytgkpplbomciehaa
