/- Numbers of a run, and what two of them make, by the program: walked. Each lemma states its own conditions. -/
import Derived.Test.YtgkpplbomciehaaStt12
namespace Go.Proofs.Ytgkpplbomciehaa
set_option maxRecDepth 20000
set_option maxHeartbeats 8000000
open Go.RowKit
theorem b9c(n:Int)(w:World):Calls Try.prog 69 #[.int .i64 n] w fun r w'=>r=.returned (.bool (decide (Num n)))∧w=w':=by
 have HN:Hid (decide (Num n)=(decide (-2147483648≤n) && decide (n≤2147483647))):=Lib.hid (by rw[Bool.eq_iff_iff,decide_eq_true_iff,Bool.and_eq_true,decide_eq_true_iff,decide_eq_true_iff];exact Iff.rfl);generalize decide (Num n)=T at *;by_cases h1:n≥-2147483648
 ·have d1:decide (n≥-2147483648)=true:=decide_eq_true h1;by_cases h2:n≤2147483647
  ·have d2:decide (n≤2147483647)=true:=decide_eq_true h2;have HR:Hid (T=true):=Lib.hid (by rw[HN.out,decide_eq_true (show -2147483648≤n from h1),d2];rfl);clear HN;go_enter Try.func69,Try.ntmps69;go_wp2;go_ret;exact⟨by rw[HR.out];rfl,rfl⟩
  ·have d2:decide (n≤2147483647)=false:=decide_eq_false h2;have HR:Hid (T=false):=Lib.hid (by rw[HN.out,d2,Bool.and_false]);clear HN;go_enter Try.func69,Try.ntmps69;go_wp2;go_ret;exact⟨by rw[HR.out];rfl,rfl⟩
 ·have d1:decide (n≥-2147483648)=false:=decide_eq_false h1;have HR:Hid (T=false):=Lib.hid (by rw[HN.out,decide_eq_false (show ¬-2147483648≤n from h1),Bool.false_and]);clear HN;go_enter Try.func69,Try.ntmps69;go_wp2;go_ret;exact⟨by rw[HR.out];rfl,rfl⟩
theorem b7t(b:Bool)(w:World):Calls Try.prog 146 #[.bool b] w fun r w'=>r=.returned (.int .i64 (if b then 1 else 0))∧w=w':=by
 cases b with
 | true =>
  go_enter Try.func146,Try.ntmps146;go_wp2;go_ret;exact⟨rfl,rfl⟩
 | false =>
  go_enter Try.func146,Try.ntmps146;go_wp2;go_ret;exact⟨rfl,rfl⟩
theorem w32(x:Int):IntKind.i32.wrap (IntKind.i64.wrap x)=wrap x:=by
 rw[IntKind.wrap_i32,IntKind.wrap_i64];unfold wrap;omega
theorem wCC(x:Int):wrap (wrap64 x)=wrap x:=by
 unfold wrap64 wrap;omega
theorem wBB(x:Int):wrap64 (wrap32 x)=wrap x:=by
 unfold wrap64 wrap32 wrap;omega
theorem c4C(k a b:Int)(w:World):Calls Try.prog 112 #[.int .i64 k,.int .i64 a,.int .i64 b] w fun r w'=>r=.returned (.tuple #[.int .i64 (opV k a b).1,.int .i64 (opV k a b).2])∧w=w':=by
 have HO:Hid (opV k a b=if k=4 then(wrap (a+b),0) else if k=5 then(wrap (a-b),0) else if k=6 then(wrap (a*b),0) else if k=7∨k=8 then(if b=0 then(0,2) else if k=7 then(wrap (a.tdiv b),0) else(wrap (a.tmod b),0)) else if(k=9∧a<b)∨(k=10∧a=b) then(1,0) else(0,0)):=Lib.hid rfl;generalize opV k a b=T at *;by_cases k4:k=4
 ·subst k4;have HR:Hid (T=(wrap (a+b),0)):=Lib.hid (by rw[HO.out,if_pos rfl]);clear HO;go_enter Try.func112,Try.ntmps112;go_wp2;go_ret2
  exact⟨by rw[HR.out];simp[wBB,wCC],rfl⟩
 by_cases k5:k=5
 ·subst k5;have HR:Hid (T=(wrap (a-b),0)):=Lib.hid (by rw[HO.out,if_neg (by decide),if_pos rfl]);clear HO;go_enter Try.func112,Try.ntmps112;go_wp2;go_ret2
  exact⟨by rw[HR.out];simp[wBB,wCC],rfl⟩
 by_cases k6:k=6
 ·subst k6;have HR:Hid (T=(wrap (a*b),0)):=Lib.hid (by rw[HO.out,if_neg (by decide),if_neg (by decide),if_pos rfl]);clear HO;go_enter Try.func112,Try.ntmps112;go_wp2;go_ret2
  exact⟨by rw[HR.out];simp[wBB,wCC],rfl⟩
 have e4:(k==4)=false:=by simpa using k4
 have e5:(k==5)=false:=by simpa using k5
 have e6:(k==6)=false:=by simpa using k6
 by_cases k7:k=7
 ·subst k7;by_cases hb:b=0
  ·subst hb;have HR:Hid (T=(0,2)):=Lib.hid (by rw[HO.out,if_neg (by decide),if_neg (by decide),if_neg (by decide),if_pos (Or.inl rfl),if_pos rfl]);clear HO;go_enter Try.func112,Try.ntmps112;go_wp2;go_ret2
   exact⟨by rw[HR.out];rfl,rfl⟩
  ·have eb:(b==0)=false:=by simpa using hb
   have HR:Hid (T=(wrap (a.tdiv b),0)):=Lib.hid (by rw[HO.out,if_neg (by decide),if_neg (by decide),if_neg (by decide),if_pos (Or.inl rfl),if_neg hb,if_pos rfl]);clear HO;go_enter Try.func112,Try.ntmps112;go_wp2;go_ret2
   exact⟨by rw[HR.out];simp[wBB,wCC],rfl⟩
 by_cases k8:k=8
 ·subst k8;by_cases hb:b=0
  ·subst hb;have HR:Hid (T=(0,2)):=Lib.hid (by rw[HO.out,if_neg (by decide),if_neg (by decide),if_neg (by decide),if_pos (Or.inr rfl),if_pos rfl]);clear HO;go_enter Try.func112,Try.ntmps112;go_wp2;go_ret2
   exact⟨by rw[HR.out];rfl,rfl⟩
  ·have eb:(b==0)=false:=by simpa using hb
   have HR:Hid (T=(wrap (a.tmod b),0)):=Lib.hid (by rw[HO.out,if_neg (by decide),if_neg (by decide),if_neg (by decide),if_pos (Or.inr rfl),if_neg hb,if_neg (by decide)]);clear HO;go_enter Try.func112,Try.ntmps112;go_wp2;go_ret2
   exact⟨by rw[HR.out];simp[wBB],rfl⟩
 have e7:(k==7)=false:=by simpa using k7
 have e8:(k==8)=false:=by simpa using k8
 replace HO:Hid (T=if(k=9∧a<b)∨(k=10∧a=b) then(1,0) else(0,0)):=Lib.hid (by rw[HO.out,if_neg k4,if_neg k5,if_neg k6,if_neg (by omega)]);clear k4 k5 k6 k7 k8;by_cases k9:k=9
 ·subst k9
  have HR:Hid (T=((if decide (a<b) then 1 else 0),0)):=Lib.hid (by
   rw[HO.out];by_cases h:a<b
   ·rw[if_pos (Or.inl ⟨rfl,h⟩),decide_eq_true h];rfl
   ·rw[if_neg (by omega),decide_eq_false h];rfl)
  clear HO;generalize hd:decide (a<b)=d at *;go_enter Try.func112,Try.ntmps112;go_wp2_with fail
  refine(b7t _ _).mono ?_;rintro r w1 ⟨rfl,rfl⟩;cases d with
  | true =>
   go_wp2;go_ret2
   exact⟨by rw[HR.out];rfl,rfl⟩
  | false =>
   go_wp2;go_ret2
   exact⟨by rw[HR.out];rfl,rfl⟩
 have e9:(k==9)=false:=by simpa using k9
 by_cases k10:k=10
 ·subst k10
  have HR:Hid (T=((if(a==b) then 1 else 0),0)):=Lib.hid (by
   rw[HO.out];by_cases h:a=b
   ·rw[if_pos (Or.inr ⟨rfl,h⟩),show(a==b)=true by simpa using h];rfl
   ·rw[if_neg (by omega),show(a==b)=false by simpa using h];rfl)
  clear HO;generalize hd:(a==b)=d at *;go_enter Try.func112,Try.ntmps112;go_wp2_with fail
  refine(b7t _ _).mono ?_;rintro r w1 ⟨rfl,rfl⟩;cases d with
  | true =>
   go_wp2;go_ret2
   exact⟨by rw[HR.out];rfl,rfl⟩
  | false =>
   go_wp2;go_ret2
   exact⟨by rw[HR.out];rfl,rfl⟩
 ·have e10:(k==10)=false:=by simpa using k10
  have HR:Hid (T=(0,0)):=Lib.hid (by rw[HO.out,if_neg (by omega)]);clear HO;go_enter Try.func112,Try.ntmps112;go_wp2;go_ret2
  exact⟨by rw[HR.out];rfl,rfl⟩
theorem b7I{W:World}{vv:Value}{vs:List (List Int)}(h:Sl b2l.slice W vv vs){i:Nat}{l:List Int}(hl:vs[i]? = some l):∃b o c A cl,vv=.slice (some ⟨b,o,none⟩) vs.length c∧W.cell? ⟨b,o+i,none⟩=some (.slice A l.length cl)∧Sl b2l W (.slice A l.length cl) l:=by
 obtain⟨A,c,rfl,-⟩:=b0R h;obtain⟨b,o,cs,rfl,hr,hc⟩:=h.elem hl;obtain⟨v,rfl,hv⟩:=hr;obtain⟨A',cl,rfl,-⟩:=b0R hv;have:=hc 0 _ rfl;exact⟨b,o,c,A',cl,rfl,by simpa[Rep.slice] using this,hv⟩
theorem b2b{W:World}{A:Option Addr}{n c:Nat}{l:List Int}(h:Sl b2l W (.slice A n c) l){j:Nat}{x:Int}(hx:l[j]? = some x):∃b o,A=some ⟨b,o,none⟩∧W.cell? ⟨b,o+j,none⟩=some (.int .i64 x):=by
 obtain⟨b,o,rfl,hA⟩:=h.lies (by have:=(List.getElem?_eq_some_iff.1 hx).1;omega);exact⟨b,o,rfl,b2l.cell hA hx⟩
theorem b1A{α:Type}{l:List α}{i:Nat}{x d:α}(h:l[i]? = some x):l.getD i d=x:=by rw[List.getD_eq_getElem?_getD,h];rfl
def b6I(F:Nat)(z:List Int)(vs:List (List Int))(e:PE):Prop:=e.parts z=0→∀(val vv:Value) (W:World),PEV W e val→Sl b2l.slice W vv vs→Calls Try.prog F #[val,vv] W fun r w'=>r=.returned (.tuple #[.int .i64 (e.val vs).1,.int .i64 (e.val vs).2])∧Bel W w'
theorem c2J(z:List Int)(vs:List (List Int))(hf:b4Z z vs)(k n:Int)(args:List PE)(IH:∀x∈args,b6I 70 z vs x):b6I 70 z vs (.mk k n args):=by
 intro hp val vv w h hs;obtain⟨hpp,hpa⟩:=PE.parts_ok hp;obtain⟨k1,k10,har,hnum,hvar,hone,-⟩:=b6w hpp;simp only[PE.kind,PE.n,PE.args] at k1 k10 har hnum hvar hone;obtain⟨v,rfl,hv⟩:=h;simp only[PE.kind,PE.n,PE.args] at hv ⊢;obtain⟨A,c,rfl,hll⟩:=b0R hv;have HT:Hid ((PE.mk k n args).val vs=if k=1 then(n,0) else if k=2 then(b5R vs n 0,0) else b5s k n vs (args.map (PE.val vs))):=Lib.hid (by rw[PE.val,b4W]);have HPA:=Lib.hid hpa;have HI:=Lib.hid IH;have HV:=Lib.hid hv;have HS:=Lib.hid hs;have HB:Hid (Bel w (w.alloc (.cells #[.int .i64 k,.int .i64 n,.slice A args.length c] 47))):=Lib.hid ((Bel.rfl_ w).al _);have HK:=Lib.hid (Blk.new w 47 #[.int .i64 k,.int .i64 n,.slice A args.length c]);clear hp hpp hpa IH hv hs;generalize(PE.mk k n args).val vs=T at *;by_cases e1:k=1
 ·subst e1;have HR:Hid (T=(n,0)):=Lib.hid (by rw[HT.out,if_pos rfl]);clear hnum hvar hone har;go_enter Try.func70,Try.ntmps70;go_wp2;go_ret2
  exact⟨by rw[HR.out];rfl,HB.out⟩
 have d1:(k==1)=false:=by simpa using e1
 have hvl:vs.length=z.length:=hf.1;by_cases e2:k=2
 ·subst e2;obtain⟨hn0,hn1⟩:=hvar (Or.inl rfl);obtain⟨l,hl⟩:∃l,vs[n.toNat]? = some l:=⟨_,List.getElem?_eq_getElem (by omega)⟩;have hl1:=(hf.2 _ _ hl).1 (hone rfl);obtain⟨x,hx⟩:∃x,l[0]? = some x:=⟨_,List.getElem?_eq_getElem (by omega)⟩;have HR:Hid (T=(x,0)):=Lib.hid (by rw[HT.out,if_neg (by decide),if_pos rfl];unfold b5R;rw[b1A hl];show(l.getD 0 0,(0:Int))=_;rw[b1A hx]);obtain⟨b,o,cv,A2,cl,rfl,hc1,hsl⟩:=b7I HS.out hl;obtain⟨b2,o2,rfl,hc2⟩:=b2b hsl hx;have c1:=HB.out.cell hc1;have c2:=HB.out.cell hc2;rw[Nat.add_zero] at c2;have i1:n<vs.length:=by omega
  have i2:(0:Int)<l.length:=by omega
  have i3:0<l.length:=by omega
  clear hnum hvar hone har hc1 hc2 hsl hl hx;go_enter Try.func70,Try.ntmps70;go_wp2;go_ret2
  exact⟨by rw[HR.out];rfl,HB.out⟩
 have d2:(k==2)=false:=by simpa using e2
 obtain⟨x,t,rfl⟩:∃x t,args=x::t:=by
  cases args with
  | nil=>unfold b1B at har;simp at har;omega
  | cons x t=>exact⟨x,t,rfl⟩
 replace HT:Hid (T=b5s k n vs (x.val vs::t.map (PE.val vs))):=Lib.hid (by rw[HT.out,if_neg e1,if_neg e2];rfl);rw[b2Q] at HT;obtain⟨bA,oA,rfl,hA⟩:=HV.out.lies (by simp);obtain⟨B,mm,cc,hs0,y0,y1,y2⟩:=peR.cells hA (k:=0) (x:=x) rfl;simp only[Nat.zero_mul,Nat.add_zero] at y0 y1 y2;replace y0:=HB.out.cell y0;replace y1:=HB.out.cell y1;replace y2:=HB.out.cell y2;have HSX:=Lib.hid hs0;have HC:=Lib.hid (fun W (hb:Bel w W)=>HI.out x (by simp) (HPA.out x (by simp)) (.agg #[.int .i64 x.kind,.int .i64 x.n,.slice B mm cc]) vv W ⟨_,rfl,HSX.out.keep hb⟩ (HS.out.keep hb));have i0:(0:Int)<(x::t).length:=by simp
 have i0':0<(x::t).length:=by simp
 clear hs0 HSX hnum hone;generalize x.val vs=X at *;generalize x.kind=xk at *;generalize x.n=xn at *;obtain⟨X1,X2⟩:=X;dsimp only at HT HC;have q2:=HK.out.cell (i:=2) (v:=.slice (some ⟨bA,oA,none⟩) (x::t).length c) rfl;generalize hTL:(x::t).length=TL at *;go_enter Try.func70,Try.ntmps70;go_wp2_with fail
 refine(HC.out _ HB.out).mono ?_;rintro r w1 ⟨rfl,hb⟩;have k0:=hb.cell (HK.out.cell (i:=0) (v:=.int .i64 k) rfl);have k1':=hb.cell (HK.out.cell (i:=1) (v:=.int .i64 n) rfl);have k2':=hb.cell q2;have HB1:=Lib.hid (HB.out.tr hb);clear hb y0 y1 y2 q2 HC;by_cases h0:X2≠0
 ·have d0:(X2 != 0)=true:=by simpa using h0
  have HR:Hid (T=(0,X2)):=Lib.hid (by rw[HT.out,if_pos h0]);clear h0;go_wp2;go_ret2
  exact⟨by rw[HR.out];rfl,HB1.out⟩
 have h00:X2=0:=by omega
 subst h00;rw[if_neg (by decide)] at HT;clear h0;by_cases e3:k=3
 ·subst e3;rw[if_pos rfl] at HT;obtain⟨hn0,hn1⟩:=hvar (Or.inr rfl);obtain⟨l,hl⟩:∃l,vs[n.toNat]? = some l:=⟨_,List.getElem?_eq_getElem (by omega)⟩;rw[b1A hl] at HT;obtain⟨b,o,cv,A2,cl,rfl,hc1,hsl⟩:=b7I HS.out hl;have c1:=HB1.out.cell hc1;have i1:n<vs.length:=by omega
  by_cases hx0:X1<0
  ·have dx:decide (X1<0)=true:=decide_eq_true hx0;have HR:Hid (T=(0,3)):=Lib.hid (by rw[HT.out,if_neg (by omega)]);clear HT hc1 hsl hl hvar har;go_wp2;go_ret2
   exact⟨by rw[HR.out];rfl,HB1.out⟩
  have dx:decide (X1<0)=false:=decide_eq_false hx0;by_cases hx1:X1≥l.length
  ·have dy:decide (X1≥(l.length:Int))=true:=decide_eq_true hx1;have HR:Hid (T=(0,3)):=Lib.hid (by rw[HT.out,if_neg (by omega)]);clear HT hc1 hsl hl hvar har;go_wp2;go_ret2
   exact⟨by rw[HR.out];rfl,HB1.out⟩
  have dy:decide (X1≥(l.length:Int))=false:=decide_eq_false hx1;obtain⟨u,hu⟩:∃u,l[X1.toNat]? = some u:=⟨_,List.getElem?_eq_getElem (by omega)⟩;obtain⟨b2,o2,rfl,hc2⟩:=b2b hsl hu;have c2:=HB1.out.cell hc2;have HR:Hid (T=(u,0)):=Lib.hid (by rw[HT.out,if_pos (by omega)];unfold b5R;rw[b1A hl,b1A hu]);have j0:0≤X1:=by omega
  have j1:X1<l.length:=by omega
  clear HT hc1 hc2 hsl hl hu hvar har hx0 hx1;go_wp2;go_ret2
  exact⟨by rw[HR.out];rfl,HB1.out⟩
 have d3:(k==3)=false:=by simpa using e3
 rw[if_neg e3] at HT
 obtain⟨y,t2,rfl⟩:∃y t2,t=y::t2:=by
  cases t with
  | nil=>unfold b1B at har;rw[if_neg (by omega),if_neg (by omega),if_neg e3] at har;simp at hTL;omega
  | cons y t2=>exact⟨y,t2,rfl⟩
 obtain⟨B2,mm2,cc2,hs1,z0,z1,z2⟩:=peR.cells hA (k:=1) (x:=y) rfl;simp only[Nat.one_mul] at z0 z1 z2;replace z0:=HB1.out.cell z0;replace z1:=HB1.out.cell z1;replace z2:=HB1.out.cell z2;rw[Nat.add_assoc] at z1 z2;have HSY:=Lib.hid hs1;have HC2:=Lib.hid (fun W (hb:Bel w W)=>HI.out y (by simp) (HPA.out y (by simp)) (.agg #[.int .i64 y.kind,.int .i64 y.n,.slice B2 mm2 cc2]) vv W ⟨_,rfl,HSY.out.keep hb⟩ (HS.out.keep hb));have i4:(1:Int)<TL:=by simp at hTL;omega
 have i5:1<TL:=by omega
 clear hs1 HSY hvar har;replace HT:Hid (T=if(y.val vs).2≠0 then(0,(y.val vs).2) else opV k X1 (y.val vs).1):=Lib.hid HT.out;generalize y.val vs=Y at *;generalize y.kind=yk at *;generalize y.n=yn at *;obtain⟨Y1,Y2⟩:=Y;dsimp only at HT HC2;go_wp2_with fail
 refine(HC2.out _ HB1.out).mono ?_;rintro r w2 ⟨rfl,hb⟩;replace k0:=hb.cell k0;have HB2:=Lib.hid (HB1.out.tr hb);clear hb z0 z1 z2 HC2 k1' k2';by_cases h1:Y2≠0
 ·have dd:(Y2 != 0)=true:=by simpa using h1
  have HR:Hid (T=(0,Y2)):=Lib.hid (by rw[HT.out,if_pos h1]);clear h1;go_wp2;go_ret2
  exact⟨by rw[HR.out];rfl,HB2.out⟩
 have h11:Y2=0:=by omega
 subst h11;have HR:Hid (T=opV k X1 Y1):=Lib.hid (by rw[HT.out,if_neg (by decide)]);have HOP:=Lib.hid (c4C k X1 Y1 w2);generalize opV k X1 Y1=Z at *;clear h1;go_wp2_with fail
 refine HOP.out.mono ?_;rintro r w3 ⟨rfl,rfl⟩;go_wp2;go_ret2
 exact⟨by rw[HR.out];rfl,HB2.out⟩
theorem c1E(z:List Int)(vs:List (List Int))(hf:b4Z z vs):∀e:PE,b6I 70 z vs e:=
 PE.ind fun k n args ih=>c2J z vs hf k n args ih
theorem c0Z(m:Nat)(hm:m≤4000)(w:World):(Instr.makeSlice 23 (.int .i64 m) (.int .i64 m)).run Try.prog w=.ok (.slice (some ⟨w.heap.size,0,none⟩) m m) (w.alloc (.cells (b0w (List.replicate m 0)) 3)):=by
 have h2:(Try.prog.info? 3).map (fun i=>(i.zero,i.size,i.bytes))=some (some (.int .i64 0),1,8):=by kernel_rfl
 obtain⟨i,hi,hz0,hz1,hz2⟩:=info_parts h2;have hr:=run_make (P:=Try.prog) w 23 3 i _ Try.underlying23 hi hz0 .i64 .i64 m m (by omega) (by omega) (by rw[hz2];omega) (by omega);rw[hz1,Int.toNat_natCast] at hr
 have hc:madeCells (Value.cells (.int .i64 0)) (m*1)=b0w (List.replicate m 0):=by
  unfold b0w madeCells;apply Array.ext
  ·simp
  ·intro j h1 h3;simp[Value.cells,Nat.mod_one]
 rw[hc] at hr;exact hr
def b1t(n:Int):Nat:=if n=0 then 1 else n.toNat
theorem b6d{z:List Int}{j:Nat}{n:Int}(h:z[j]? = some n):b0c (z.take (j+1))=b0c (z.take j)++[List.replicate (b1t n) 0]:=by
 unfold b0c b1t;rw[List.take_add_one,h,List.map_append];rfl
theorem b5S(z:List Int)(hz:∀n∈z,0≤n∧n≤8)(hl:z.length≤20)(v:Value)(w:World)(h:Sl b2l w v z) :
  Calls Try.prog 86 #[v] w fun r w'=>∃u,r=.returned u∧b3V w' w.heap.size u (b0c z)∧Bel w w':=by
 have HSL:=Lib.hid h;obtain⟨A,c,rfl,hll⟩:=b0R h;have HZ:=Lib.hid hz;clear h hz;go_enter Try.func86,Try.ntmps86;go_wp2;go_loopw [3,8] (fun a i wr=>∃j:Nat,i=.int .i64 j∧j≤z.length∧Hid (b3V wr w.heap.size a (b0c (z.take j)))∧Hid (Bel w wr)) (fun _ i _=>z.length-(intOf i).toNat)
 case atStart=>exact⟨0,rfl,Nat.zero_le _,b3V.nil w w.heap.size,Bel.rfl_ _⟩
 case round =>
  obtain⟨j,rfl,hj,HV,HB⟩:=hrel;by_cases hlt:j<z.length
  rotate_left
  ·have hjl:j=z.length:=by omega
   subst hjl;go_wp2;go_ret;exact⟨_,rfl,by have:=HV.out;rw[List.take_length] at this;exact this,HB.out⟩
  obtain⟨n,hn⟩:∃n,z[j]? = some n:=⟨_,List.getElem?_eq_getElem hlt⟩;obtain⟨hn0,hn8⟩:=HZ.out n (List.mem_of_getElem? hn);obtain⟨b,o,rfl,hA⟩:=(HSL.out.keep HB.out).lies (by omega);have hc:=b2l.cell hA hn;have HT:=Lib.hid (b6d hn);have hzl:(b0c (z.take j)).length=j:=by unfold b0c;rw[List.length_map,List.length_take];omega
  obtain⟨gs,hgs⟩:=HV.out;have HGS:=Lib.hid hgs;have hsz:=Lib.hid HB.out.size;clear hA hn HV hgs;generalize hVS:b0c (z.take j)=VS at *
  have key:∃m:Nat,b1t n=m∧m≤8∧1≤m∧max 1 n=(m:Int):=by
   unfold b1t;by_cases h1:n > 1
   ·exact⟨n.toNat,by rw[if_neg (by omega)],by omega,by omega,by omega⟩
   ·by_cases h0:n=0
    ·exact⟨1,by rw[if_pos h0],by omega,by omega,by omega⟩
    ·exact⟨1,by rw[if_neg h0];omega,by omega,by omega,by omega⟩
  obtain⟨m,hm,hm8,hm1,hmx⟩:=key;rw[hm] at HT;have hmk:=c0Z m (by omega) wr;have HBA:Hid (Bel wr (wr.alloc (.cells (b0w (List.replicate m 0)) 3))):=Lib.hid ((Bel.rfl_ wr).al _);have HNW:=Lib.hid (Blk.new wr 3 (b0w (List.replicate m 0)));have HRW:=Lib.hid (HBA.out.own HGS.out.row);clear hm hVS;go_wp2_with (at_builtin;go_loud (refine b2R (wr.alloc (.cells (b0w (List.replicate m 0)) 3)) rfl (.tmp 12) (.tmp 16) 24 rfl w.heap.size c3h u3 VS.length (heads gs VS) rfl HRW.out [.slice (some ⟨wr.heap.size,0,none⟩) m m] (by rw[b1r];rfl) rfl (by simp[Value.oneCell']) (by simp only[maxLen];omega) (by omega) (Nat.le_trans hsz.out HBA.out.size) ?_);intro g2 cap w4 hown4 hg4 _;have HO4:=Lib.hid hown4;have HG4:=Lib.hid hg4;clear hown4 hg4)
  go_roundw
  case rel =>
   refine⟨j+1,by go_num,by omega,?_,?_⟩
   ·rw[HT.out];have ho:=HBA.out.own HGS.out.row;have hl2:(List.replicate m (0:Int)).length=m:=List.length_replicate;refine Lib.hid ⟨gs++[wr.heap.size],HGS.out.push (w2:=w4) (Nat.le_refl _) hsz.out (by rw[hl2];simp only[maxLen];omega) ?_ (by rw[hl2];have:=HO4.out;rw[hzl] at this ⊢;exact this) ?_⟩
    ·exact HNW.out.grown HG4.out (Blk.ne_own HNW.out ho (by decide))
    ·intro k t cs ht hb;exact(hb.keep HBA.out).grown HG4.out (Blk.ne_own (hb.keep HBA.out) ho (fun e=>ht e.symm))
   ·have ho:=HBA.out.own HGS.out.row;exact Lib.hid (Below.grown (HB.out.tr HBA.out) HG4.out (Nat.le_trans hsz.out HBA.out.size) (fun k hk=>(ho.lt k hk).1))
  case measure=>simp[intOf];omega
theorem b8k(out:List Ev)(e:Ev):evC (out++[e])=evC out++e.cells:=by unfold evC;simp
theorem RnM.told{w0:World}{ps:List PF}{fuel:Int}{fs:FS}{L r:Nat}{w W W2:World}{inp:List Int}{steps made deep:Int}{out:List Ev}{vp vin vf ve ve':Value}
  (hb0:Below w0.heap.size w0 w) (hr0:w0.heap.size≤r) (hrL:r<L) (hB:Blk w r 171 #[vp,vin,.int .i64 fuel,.int .i64 steps,.int .i64 made,.int .i64 deep,vf,ve]) (hps:Sl pfR w0 vp ps) (hin:Sl b2l w0 vin inp)
  (hfs:w.ownsRow w0.heap.size INT 1 vf fs.l.length (fs.l.map (Value.int .i64))) (hvf:(∀k,vf.ownBlock=some k→k<L)∧vf=fs.v) (hev:w.ownsRow w0.heap.size EVT 6 ve out.length (evC out)) (hW:Bel w W) (hg:W.grownBy W2 ve.ownBlock) (e:Ev)
  (ho:W2.ownsRow w0.heap.size EVT 6 ve' (out.length+1) (evC out++e.cells)) :
  RnM w0 ps fuel fs L r (W2.setCell ⟨r,7,none⟩ ve') inp steps made deep (out++[e])∧Kept rts w0.heap.size w.heap.size w (W2.setCell ⟨r,7,none⟩ ve'):=by
 have hBW:=hB.keep hW;have hevW:=hW.own hev;have hB2:=hBW.grown hg (Blk.ne_own hBW hevW (by decide));have h2:Below w0.heap.size w0 W2:=Below.grown (Bel.trB hb0 hW hb0.size) hg (Nat.le_trans hb0.size hW.size) (fun k hk=>(hevW.lt k hk).1);have hfs2:=b5j (hW.own hfs) hevW (by decide) hg;refine⟨⟨h2.setCell (p:=⟨r,7,none⟩) hr0 _,hr0,hrL,vp,vin,vf,ve',hB2.set_ 7 _,hps,hin,b1E hfs2 hB2 (by decide) 7 _,hvf,?_⟩,?_⟩
 ·rw[List.length_append,b8k];exact b1E ho hB2 (by decide) 7 _
 ·exact((Kept.bel hW hb0.size).tr (Kept.mono (Kept.grown hevW (by decide) hg (Nat.le_trans hb0.size hW.size)) (Nat.le_refl _))).tr (Kept.set_ty hB2 hr0 (by decide) 7 _)
theorem b2x(w0:World)(ps:List PF)(fuel:Int)(fs:FS)(L r:Nat)(inp:List Int)(steps made deep:Int)(out:List Ev)(k f a v i n:Int)(w:World)(hR:RnM w0 ps fuel fs L r w inp steps made deep out)(hl:out.length≤100000) :
  Calls Try.prog 148 #[.pointer (some ⟨r,0,none⟩),.agg #[.int .i64 k,.int .i64 f,.int .i64 a,.int .i64 v,.int .i64 i,.int .i64 n]] w fun x w'=>x=.returned (.tuple #[])∧RnM w0 ps fuel fs L r w' inp steps made deep (out++[⟨k,f,a,v,i,n⟩])∧Kept rts w0.heap.size w.heap.size w w':=by
 obtain⟨hb0,hr0,hrL,vp,vin,vf,ve,hB,hps,hin,hfs,hvf,hev⟩:=hR;have HT:=Lib.hid (fun(W W2:World) (ve':Value)=>@RnM.told w0 ps fuel fs L r w W W2 inp steps made deep out vp vin vf ve ve' hb0 hr0 hrL hB hps hin hfs hvf hev);have hb1:Bel w (w.alloc (.cells #[.int .i64 k,.int .i64 f,.int .i64 a,.int .i64 v,.int .i64 i,.int .i64 n] EVT)):=(Bel.rfl_ w).al _;have HB1:=Lib.hid (hB.keep hb1);have HO1:=Lib.hid (hb1.own hev);have HQ1:=Lib.hid (Blk.new w EVT #[.int .i64 k,.int .i64 f,.int .i64 a,.int .i64 v,.int .i64 i,.int .i64 n]);have HBB:=Lib.hid hb1;have HS:=Lib.hid (Nat.le_trans hb0.size hb1.size);have HT1:Hid (∀u∈[Value.int .i64 k,.int .i64 f,.int .i64 a,.int .i64 v,.int .i64 i,.int .i64 n],u.oneCell'=true):=Lib.hid (fun u hu=>by simp at hu;rcases hu with rfl | rfl | rfl | rfl | rfl | rfl<;>rfl);have HT3:Hid (out.length+1≤maxLen):=Lib.hid (by simp only[maxLen];omega);have HT4:Hid ((out.length+1)*48≤140737488355328):=Lib.hid (by omega);clear hb0 hr0 hrL hB hps hin hfs hvf hev hb1 hl;go_enter Try.func148,Try.ntmps148;go_upto_region 1 with fail;generalize w.alloc (.cells #[.int .i64 k,.int .i64 f,.int .i64 a,.int .i64 v,.int .i64 i,.int .i64 n] EVT)=W1 at *;have r7:=HB1.out.cell (i:=7) (v:=ve) rfl;have q0:=HQ1.out.cell (i:=0) (v:=.int .i64 k) rfl;have q1:=HQ1.out.cell (i:=1) (v:=.int .i64 f) rfl;have q2:=HQ1.out.cell (i:=2) (v:=.int .i64 a) rfl;have q3:=HQ1.out.cell (i:=3) (v:=.int .i64 v) rfl;have q4:=HQ1.out.cell (i:=4) (v:=.int .i64 i) rfl;have q5:=HQ1.out.cell (i:=5) (v:=.int .i64 n) rfl;have r7':=(HB1.out.keep ((Bel.rfl_ W1).al (.cells #[.int .i64 k,.int .i64 f,.int .i64 a,.int .i64 v,.int .i64 i,.int .i64 n] EVT))).cell (i:=7) (v:=ve) rfl;have HB1d:=Lib.hid (HB1.out.keep ((Bel.rfl_ W1).dr));have HO1d:=Lib.hid (((Bel.rfl_ W1).dr).own HO1.out);generalize hQ:w.heap.size=Q at *;have HQE:=Lib.hid hQ;clear hQ
 go_region_law (first
  | (refine @b4U _ W1.drew _ _ _ _ _ _ ?_ (.tmp 8) (.tmp 10) 27 ?_ _ _ _ _ b4e ve out.length _ ?_ HO1d.out [.int .i64 k,.int .i64 f,.int .i64 a,.int .i64 v,.int .i64 i,.int .i64 n] _ rfl ?_ ?_ HT1.out HT3.out HT4.out HS.out ?_ _ ?_;exact rfl;exact rfl;exact rfl;exact rfl;exact rfl;rotate_left;exact rfl;intro gg cap w4 hown4 hg4 _;have HO4:=Lib.hid hown4;have HG4:=Lib.hid hg4;have hs4:=HB1d.out.grown hg4 (HB1d.out.ne_own HO1d.out (by decide));have x2:=hs4.cell (i:=7) (v:=ve) rfl;have xf:=hs4.frozen 7;clear hs4 hown4 hg4))
 all_goals go_wp2
 all_goals
  have hx:=HT.out W1.drew w4 (.slice (some ⟨gg,0,none⟩) (out.length+1) cap) HBB.out.dr HG4.out ⟨k,f,a,v,i,n⟩ HO4.out;exact bodyPost_end (v:=.tuple #[]) (results_none rfl _ _ _) rfl ⟨rfl,hx.1,HQE.out▸hx.2⟩
section
variable {w:World}{base size n:Nat}{e:TypeId}{xs:List Value}
theorem b2K{w':World}{v:Value}(ho:w.ownsRow base e size v n xs)(hk:∀k cs,v.ownBlock=some k→Blk w k e cs→Blk w' k e cs):w'.ownsRow base e size v n xs:=
 ⟨ho.1,by
  rcases ho.2 with h | ⟨g,cap,cur,rfl,h1,h2,h3⟩
  ·exact .inl h
  ·exact .inr ⟨g,cap,cur,rfl,h1,hk _ _ rfl h2,h3⟩⟩
end
structure FrX where
 vv:Value
 vt:Value
 gs:List Nat
 tb:Nat
structure TasksT(w0 w:World)(v:Value)(ts:List Tk)(tb:Nat):Prop where
 row:∃cells,w.ownsRow w0.heap.size TKT 15 v ts.length cells∧∀(i:Nat) t,ts.reverse[i]? = some t→TkR w0 t ((cells.drop (i*15)).take 15)
 blk:v.ownBlock=some tb
def b4J(f:Fr)(x:FrX):List Value:=[.int .i64 f.num,.int .i64 f.fn,.int .i64 f.at_,x.vv,x.vt]
def frC:List Fr→List FrX→List Value
 | f::fs,x::xs=>frC fs xs++b4J f x
 | _,_=>[]
theorem b4D:∀{fs:List Fr} {xs:List FrX},xs.length=fs.length→(frC fs xs).length=fs.length*5
 | [],[],_=>rfl
 | f::fs,x::xs,h=>by
  rw[frC,List.length_append,b4D (by simpa using h),List.length_cons];simp only[b4J,List.length_cons,List.length_nil];omega
 | [],_::_,h=>by simp at h
 | _::_,[],h=>by simp at h
structure FrD(w0 w:World)(f:Fr)(x:FrX):Prop where
 vars:VarsG w w0.heap.size x.vv f.vars x.gs
 tasks:TasksT w0 w x.vt f.tasks x.tb
structure FrmsM(w0 w:World)(vfr:Value)(fs:List Fr)(xs:List FrX):Prop where
 row:w.ownsRow w0.heap.size FRT 5 vfr fs.length (frC fs xs)
 len:xs.length=fs.length
 at_:∀(i:Nat) f x,fs[i]? = some f→xs[i]? = some x→FrD w0 w f x
 nd:(xs.flatMap FrX.gs).Nodup
 td:(xs.map FrX.tb).Nodup
structure MacD(w0:World)(ps:List PF)(fuel:Int)(inp:List Int)(q:Nat)(w:World)(m:Mc)(vp vin vfr vout:Value)(taken:Nat)(xs:List FrX):Prop where
 low:Below w0.heap.size w0 w
 lo:w0.heap.size≤q
 blk:Blk w q MCT #[vp,vin,.int .i64 taken,.int .i64 fuel,.int .i64 m.steps,.int .i64 m.made,vfr,vout,.bool m.over]
 prog:Sl pfR w0 vp ps
 ins:Sl b2l w0 vin inp
 inp:m.inp=inp.drop taken
 tk:(taken:Int)≤m.steps
 out:w.ownsRow w0.heap.size EVT 6 vout m.out.length (evC m.out)
 frs:FrmsM w0 w vfr m.frames xs
def c1L(w0:World)(ps:List PF)(fuel:Int)(inp:List Int)(q:Nat)(w:World)(m:Mc):Prop:=∃vp vin vfr vout taken xs,MacD w0 ps fuel inp q w m vp vin vfr vout taken xs
section
variable {w0 w w':World}{v:Value}{ts:List Tk}{tb:Nat}{f:Fr}{x:FrX}{fs:List Fr}{xs:List FrX}{vfr:Value}
theorem TasksT.by_(h:TasksT w0 w v ts tb)(hk:∀cs,Blk w tb TKT cs→Blk w' tb TKT cs):TasksT w0 w' v ts tb:=by
 obtain⟨⟨cells,h1,h2⟩,h3⟩:=h;refine⟨⟨cells,b2K h1 fun k cs hb hB=>?_,h2⟩,h3⟩;rw[h3] at hb;obtain rfl:=Option.some.inj hb;exact hk cs hB
theorem FrD.by_(h:FrD w0 w f x)(hk:∀k t cs,(t=b4b∨t=INT∨t=TKT)→Blk w k t cs→Blk w' k t cs):FrD w0 w' f x:=
 ⟨h.vars.to (b2K h.vars.row fun _k _cs _ hB=>hk _ _ _ (.inl rfl) hB) fun _g _l hB=>hk _ _ _ (.inr (.inl rfl)) hB,h.tasks.by_ fun _cs hB=>hk _ _ _ (.inr (.inr rfl)) hB⟩
theorem FrmsM.by_(h:FrmsM w0 w vfr fs xs)(hk:∀k t cs,(t=FRT∨t=b4b∨t=INT∨t=TKT)→Blk w k t cs→Blk w' k t cs):FrmsM w0 w' vfr fs xs:=
 ⟨b2K h.row fun _k _cs _ hB=>hk _ _ _ (.inl rfl) hB,h.len,fun i f x hf hx=>(h.at_ i f x hf hx).by_ fun _k _t _cs ht hB=>hk _ _ _ (.inr ht) hB,h.nd,h.td⟩
theorem FrmsM.keep(h:FrmsM w0 w vfr fs xs)(hb:Bel w w'):FrmsM w0 w' vfr fs xs:=h.by_ fun _ _ _ _ hB=>hB.keep hb
end
section
variable {w0 w w':World}{ps:List PF}{fuel:Int}{inp:List Int}{q:Nat}{m:Mc}{vp vin vfr vout:Value}{taken:Nat}{xs:List FrX}
theorem MacD.keep(h:MacD w0 ps fuel inp q w m vp vin vfr vout taken xs)(hb:Bel w w'):MacD w0 ps fuel inp q w' m vp vin vfr vout taken xs:=
 ⟨Bel.trB h.low hb h.low.size,h.lo,h.blk.keep hb,h.prog,h.ins,h.inp,h.tk,hb.own h.out,h.frs.keep hb⟩
theorem MacD.set_q(h:MacD w0 ps fuel inp q w m vp vin vfr vout taken xs)(i:Nat)(u:Value):Below w0.heap.size w0 (w.setCell ⟨q,i,none⟩ u)∧(w.setCell ⟨q,i,none⟩ u).ownsRow w0.heap.size EVT 6 vout m.out.length (evC m.out)∧FrmsM w0 (w.setCell ⟨q,i,none⟩ u) vfr m.frames xs ∧
  Blk (w.setCell ⟨q,i,none⟩ u) q MCT (#[vp,vin,.int .i64 taken,.int .i64 fuel,.int .i64 m.steps,.int .i64 m.made,vfr,vout,.bool m.over].setIfInBounds i u):=
 ⟨h.low.setCell (p:=⟨q,i,none⟩) h.lo _,b1E h.out h.blk (by decide) i u,h.frs.by_ fun k t cs ht hB=>hB.aside h.blk (by rcases ht with rfl | rfl | rfl | rfl<;>decide) i u,h.blk.set_ i u⟩
theorem MacD.told(h:MacD w0 ps fuel inp q w m vp vin vfr vout taken xs){W W2:World}(hW:Bel w W){vout':Value}(hg:W.grownBy W2 vout.ownBlock)(e:Ev)(ho:W2.ownsRow w0.heap.size EVT 6 vout' (m.out.length+1) (evC m.out++e.cells)) :
  MacD w0 ps fuel inp q (W2.setCell ⟨q,7,none⟩ vout') { m with out:=m.out++[e] } vp vin vfr vout' taken xs:=by
 have h2:=h.keep hW;have hb2:=h2.blk.grown hg (Blk.ne_own h2.blk h2.out (by decide));have hl:Below w0.heap.size w0 W2:=Below.grown h2.low hg h2.low.size (fun k hk=>(h2.out.lt k hk).1);have hf:FrmsM w0 W2 vfr m.frames xs:=h2.frs.by_ fun k t cs ht hB=>hB.grown hg (Blk.ne_own hB h2.out (by rcases ht with rfl | rfl | rfl | rfl<;>decide));refine⟨hl.setCell (p:=⟨q,7,none⟩) h.lo _,h.lo,hb2.set_ 7 _,h.prog,h.ins,h.inp,h.tk,?_,hf.by_ fun k t cs ht hB=>hB.aside hb2 (by rcases ht with rfl | rfl | rfl | rfl<;>decide) 7 _⟩;show(W2.setCell ⟨q,7,none⟩ vout').ownsRow w0.heap.size EVT 6 vout' (m.out++[e]).length (evC (m.out++[e]));rw[List.length_append,b8k];exact b1E ho hb2 (by decide) 7 _
theorem MacD.told_kept(h:MacD w0 ps fuel inp q w m vp vin vfr vout taken xs){W W2:World}(hW:Bel w W){vout':Value}(hg:W.grownBy W2 vout.ownBlock):Kept [EVT,MCT] w0.heap.size w.heap.size w (W2.setCell ⟨q,7,none⟩ vout'):=by
 have h2:=h.keep hW;have hb2:=h2.blk.grown hg (Blk.ne_own h2.blk h2.out (by decide));exact((Kept.bel hW h.low.size).tr (Kept.mono (Kept.grown h2.out (by simp) hg h2.low.size) hW.size)).tr (Kept.set_ty hb2 h.lo (by simp) 7 _)
end
end Go.Proofs.Ytgkpplbomciehaa
