/- What an expression is worth, by the document: walked. Each lemma states its own conditions. -/
import Derived.Test.YtgkpplbomciehaaStt15
import Derived.Test.YtgkpplbomciehaaStt20
namespace Go.Proofs.Ytgkpplbomciehaa
set_option maxRecDepth 20000
set_option maxHeartbeats 4000000
open Go.RowKit
theorem b8X{k n:Int}{vs:List (List Int)}{args:List PE}{j:Nat}{x:PE}(hl:(args.length:Int)≤2)(hk:k=3→args.length=1)(hx:args[j]? = some x)(h0:∀y∈args.take j,(y.val vs).2=0)(hf:(x.val vs).2≠0):b5s k n vs (args.map (PE.val vs))=(0,(x.val vs).2):=by
 cases args with
 | nil=>simp at hx
 | cons a t =>
  cases j with
  | zero =>
   obtain rfl:a=x:=by simpa using hx
   rw[List.map_cons,b2Q,if_pos hf]
  | succ j =>
   have ha:=h0 a (by simp);cases t with
   | nil=>simp at hx
   | cons b t =>
    have hk3:k≠3:=fun h=>by have:=hk h;simp at this
    have hj:j=0:=by
     have h1:=(List.getElem?_eq_some_iff.1 hx).1;simp only[List.length_cons] at hl h1;omega
    subst hj;obtain rfl:b=x:=by simpa using hx
    rw[List.map_cons,b2Q,if_neg (by omega),if_neg hk3,List.map_cons];dsimp only;rw[if_pos hf]
section
variable {o:Oper}{ρ:Operand→Value}{W:World}{x y:Operand}{b f:Nat}{v:Value}{t2:TypeId}{k l m:Int}
theorem c3M(ho:o.op=.binOp .sub 3 x y t2)(hx:ρ x=.int .i64 k)(hy:ρ y=.int .i64 l)(h0:-9223372036854775808≤k-l)(h1:k-l≤9223372036854775807)(hm:k-l=m):(execOp ρ o).run Try.prog W=.ok (.value (.int .i64 m)) W:=by
 subst hm;have hw:IntKind.i64.wrap (k-l)=k-l:=by rw[IntKind.wrap_i64];omega
 simp[execOp,ho,hx,hy,hw,go_sem]
theorem b0n(h0:-9223372036854775808≤k-l)(h1:k-l≤9223372036854775807)(hm:k-l=m)(ho:o.op=.binOp .sub 3 x y t2:=by rfl)(hx:ρ x=.int .i64 k:=by kernel_rfl)(hy:ρ y=.int .i64 l:=by kernel_rfl):(execOp ρ o).run Try.prog W=.ok (.value (.int .i64 m)) W:=c3M ho hx hy h0 h1 hm
end
theorem b7v(z:List Int)(vs:List (List Int))(hf:b4Z z vs)(k n:Int)(args:List PE)(IH:∀x∈args,b6I 26 z vs x):b6I 26 z vs (.mk k n args):=by
 intro hp val vv w h hs;obtain⟨hpp,hpa⟩:=PE.parts_ok hp;obtain⟨k1,k10,har,hnum,hvar,hone,-⟩:=b6w hpp;simp only[PE.kind,PE.n,PE.args] at k1 k10 har hnum hvar hone;obtain⟨v,rfl,hv⟩:=h;simp only[PE.kind,PE.n,PE.args] at hv ⊢;obtain⟨A,c,rfl,hll⟩:=b0R hv;have HT:Hid ((PE.mk k n args).val vs=if k=1 then(n,0) else if k=2 then(b5R vs n 0,0) else b5s k n vs (args.map (PE.val vs))):=Lib.hid (by rw[PE.val,b4W]);have HPA:=Lib.hid hpa;have HI:=Lib.hid IH;have HV:=Lib.hid hv;have HS:=Lib.hid hs;have HB:Hid (Bel w (w.alloc (.cells #[.int .i64 k,.int .i64 n,.slice A args.length c] 47))):=Lib.hid ((Bel.rfl_ w).al _);have HK:=Lib.hid (Blk.new w 47 #[.int .i64 k,.int .i64 n,.slice A args.length c]);clear hp hpp hpa IH hv hs;generalize(PE.mk k n args).val vs=T at *;by_cases e1:k=1
 ·subst e1;have HR:Hid (T=(n,0)):=Lib.hid (by rw[HT.out,if_pos rfl]);clear hnum hvar hone har;go_enter Try.func26,Try.ntmps26;go_wp2;go_ret2
  exact⟨by rw[HR.out];rfl,HB.out⟩
 have d1:(k==1)=false:=by simpa using e1
 have hvl:vs.length=z.length:=hf.1;by_cases e2:k=2
 ·subst e2;obtain⟨hn0,hn1⟩:=hvar (Or.inl rfl);obtain⟨l,hl⟩:∃l,vs[n.toNat]? = some l:=⟨_,List.getElem?_eq_getElem (by omega)⟩;have hl1:=(hf.2 _ _ hl).1 (hone rfl);obtain⟨x,hx⟩:∃x,l[0]? = some x:=⟨_,List.getElem?_eq_getElem (by omega)⟩;have HR:Hid (T=(x,0)):=Lib.hid (by rw[HT.out,if_neg (by decide),if_pos rfl];unfold b5R;rw[b1A hl];show(l.getD 0 0,(0:Int))=_;rw[b1A hx]);obtain⟨b,o,cv,A2,cl,rfl,hc1,hsl⟩:=b7I HS.out hl;obtain⟨b2,o2,rfl,hc2⟩:=b2b hsl hx;have c1:=HB.out.cell hc1;have c2:=HB.out.cell hc2;rw[Nat.add_zero] at c2;have i1:n<vs.length:=by omega
  have i2:(0:Int)<l.length:=by omega
  have i3:0<l.length:=by omega
  clear hnum hvar hone har hc1 hc2 hsl hl hx;go_enter Try.func26,Try.ntmps26;go_wp2;go_ret2
  exact⟨by rw[HR.out];rfl,HB.out⟩
 have d2:(k==2)=false:=by simpa using e2
 have hl2:(args.length:Int)≤2:=by rw[har];unfold b1B;repeat' split;all_goals omega
 have hl3:k=3→args.length=1:=fun h=>by subst h;have:(args.length:Int)=1:=har;omega
 have hl0:k≠3→args.length=2:=fun h=>by
  have:(args.length:Int)=2:=by rw[har];unfold b1B;rw[if_neg (by omega),if_neg (by omega),if_neg h]
  omega
 replace HT:Hid (T=b5s k n vs (args.map (PE.val vs))):=Lib.hid (by rw[HT.out,if_neg e1,if_neg e2]);have HF:=Lib.hid (fun(j:Nat) x=>b8X (k:=k) (n:=n) (vs:=vs) (args:=args) (j:=j) (x:=x) hl2 hl3);have HO0:Hid ((w.alloc (.cells #[.int .i64 k,.int .i64 n,.slice A args.length c] 47)).ownsRow (w.heap.size+1) 3 1 (.slice none 0 0) 0 (((args.take 0).map fun x=>(x.val vs).1).map (Value.int .i64))):=Lib.hid (World.ownsRow_nil _ _ _ _);have HZ0:Hid (∀y∈args.take 0,(y.val vs).2=0):=Lib.hid (fun y hy=>by simp at hy);have HSZ:Hid (w.heap.size+1=(w.alloc (.cells #[.int .i64 k,.int .i64 n,.slice A args.length c] 47)).heap.size):=Lib.hid (by rw[b1r]);clear hnum hone har;go_enter Try.func26,Try.ntmps26;go_wp2;generalize hW1:w.alloc (.cells #[.int .i64 k,.int .i64 n,.slice A args.length c] 47)=W1 at *;clear hW1;generalize hQ:w.heap.size=Q at *;have HBB:=Lib.hid (Bel.rfl_ W1);go_loopw [6,7] (fun v i wr=>∃j:Nat,i=.int .i64 j∧j≤args.length∧Hid (∀y∈args.take j,(y.val vs).2=0)∧Hid (wr.ownsRow (Q+1) 3 1 v j (((args.take j).map fun x=>(x.val vs).1).map (Value.int .i64)))∧Hid (Bel W1 wr)) (fun _ i _=>args.length-(intOf i).toNat)
 case atStart=>exact⟨0,rfl,Nat.zero_le _,HZ0,HO0,HBB⟩
 case round =>
  obtain⟨j,rfl,hj,HZ,HO,HBO⟩:=hrel;obtain⟨WO,hWO⟩:∃W,W=wr:=⟨_,rfl⟩;subst hWO;clear HZ0 HO0 HBB;have HBW:=Lib.hid (HB.out.tr HBO.out);have HKW:=Lib.hid (HK.out.keep HBO.out);have k0:=HKW.out.cell (i:=0) (v:=.int .i64 k) rfl;have k1':=HKW.out.cell (i:=1) (v:=.int .i64 n) rfl;have k2':=HKW.out.cell (i:=2) (v:=.slice A args.length c) rfl;by_cases hlt:j<args.length
  ·have hdd:decide ((j:Int)<args.length)=true:=decide_eq_true (by omega);obtain⟨x,hx⟩:∃x,args[j]? = some x:=⟨_,List.getElem?_eq_getElem hlt⟩;obtain⟨bA,oA,rfl,hA⟩:=HV.out.lies (by omega);obtain⟨B,mm,cc,hs0,y0,y1,y2⟩:=peR.cells hA (k:=j) (x:=x) hx;replace y0:=HBW.out.cell y0;replace y1:=HBW.out.cell y1;replace y2:=HBW.out.cell y2;have HSX:=Lib.hid hs0;have HC:=Lib.hid (fun W (hb:Bel w W)=>HI.out x (List.mem_of_getElem? hx) (HPA.out x (List.mem_of_getElem? hx)) (.agg #[.int .i64 x.kind,.int .i64 x.n,.slice B mm cc]) vv W ⟨_,rfl,HSX.out.keep hb⟩ (HS.out.keep hb));have HTS:=Lib.hid (b0z hx);have HFX:=Lib.hid (HF.out j x hx HZ.out);have i0:(0:Int)≤j:=by omega
   have i1:(j:Int)<args.length:=by omega
   clear hs0 hx hA;generalize hXV:x.val vs=X at *;generalize x.kind=xk at *;generalize x.n=xn at *;obtain⟨X1,X2⟩:=X;dsimp only at HC HFX;have HXV:=Lib.hid hXV;clear hXV;go_wp2_with fail
   refine(HC.out _ HBW.out).mono ?_;rintro r w1 ⟨rfl,hb⟩;have HB1:=Lib.hid (HBO.out.tr hb);have HBW1:=Lib.hid (HBW.out.tr hb);have HO1:=Lib.hid (hb.own HO.out);clear hb y0 y1 y2 HC k0 k1' k2';by_cases h0:X2=0
   ·subst h0
    have HZ2:Hid (∀y∈args.take (j+1),(y.val vs).2=0):=Lib.hid (fun y hy=>by
     rw[HTS.out] at hy;rcases List.mem_append.1 hy with hy | hy
     ·exact HZ.out y hy
     ·obtain rfl:=List.mem_singleton.1 hy;rw[HXV.out])
    have HMP:Hid (((args.take (j+1)).map fun x=>(x.val vs).1).map (Value.int .i64)=((args.take j).map fun x=>(x.val vs).1).map (Value.int .i64)++[.int .i64 X1]):=Lib.hid (by rw[HTS.out,List.map_append,List.map_append];simp[HXV.out]);clear HTS HZ;go_wp2_with (at_builtin;go_loud (refine b2R w1 rfl (.tmp 45) (.tmp 47) 23 rfl (Q+1) elI u6 j _ rfl HO1.out [.int .i64 X1] rfl rfl (by simp[Value.oneCell']) (by simp only[maxLen];omega) (by omega) (by have:=HSZ.out;have:=HB1.out.size;omega) ?_);intro g2 cap w4 hown4 hg4 _;have HO4:=Lib.hid hown4;have HG4:=Lib.hid hg4;clear hown4 hg4)
    go_roundw
    case rel=>exact⟨j+1,by go_num,by omega,HZ2,Lib.hid (by rw[HMP.out];exact HO4.out),Lib.hid (Below.grown HB1.out HG4.out HB1.out.size (fun k hk=>by have:=(HO1.out.lt k hk).1;have:=HSZ.out;omega))⟩
    case measure=>simp[intOf];omega
   ·have d0:(X2 != 0)=true:=by simpa using h0
    have HR:Hid (T=(0,X2)):=Lib.hid (by rw[HT.out,HFX.out h0]);clear h0 HFX;go_wp2;go_ret2
    exact⟨by rw[HR.out];rfl,HBW1.out⟩
  have hdd:decide ((j:Int)<args.length)=false:=decide_eq_false (by omega);have hjl:j=args.length:=by omega
  subst hjl;rw[List.take_length] at HO HZ;clear hlt hj HF;by_cases e3:k=3
  ·subst e3
   obtain⟨x,rfl⟩:∃x,args=[x]:=by
    have:=hl3 rfl
    match args,this with
    | [x],_=>exact⟨x,rfl⟩
   obtain⟨hn0,hn1⟩:=hvar (Or.inr rfl);obtain⟨l,hl⟩:∃l,vs[n.toNat]? = some l:=⟨_,List.getElem?_eq_getElem (by omega)⟩;have hx0:=HZ.out x (by simp);generalize hXV:x.val vs=X at *;obtain⟨X1,X2⟩:=X;simp only at hx0;subst hx0
   have HT3:Hid (T=if 0≤X1∧X1<l.length then((l.getD X1.toNat 0),0) else(0,3)):=Lib.hid (by
    rw[HT.out,List.map_cons,hXV,b2Q,if_neg (by simp),if_pos rfl];unfold b5R;rw[b1A hl])
   obtain⟨g,cap,rfl,-,hcap,hcm,hgc,-⟩:=b2B HO.out (by simp);have r0:=hgc 0 (.int .i64 X1) (by simp[hXV]);obtain⟨b,o,cv,A2,cl,rfl,hc1,hsl⟩:=b7I HS.out hl;have c1:=HBW.out.cell hc1;have i1:n<vs.length:=by omega
   have hll2:l.length≤9223372036854775807:=by
    obtain⟨A',c',he,h1,h2,-⟩:=hsl;have:=h2.1;simp only[maxLen] at this;omega
   have HBT:=Lib.hid (fun W=>b1S X1 0 ((l.length:Int)-1) W);clear HT hXV HI HPA HZ hcap hcm hgc;by_cases hin:0≤X1∧X1<l.length
   ·have db:decide (0≤X1∧X1≤(l.length:Int)-1)=true:=decide_eq_true (by omega);rw[db] at HBT;obtain⟨u,hu⟩:∃u,l[X1.toNat]? = some u:=⟨_,List.getElem?_eq_getElem (by omega)⟩;have HR:Hid (T=(u,0)):=Lib.hid (by rw[HT3.out,if_pos hin,b1A hu]);obtain⟨b2,o2,rfl,hc2⟩:=b2b hsl hu;have c2:=HBW.out.cell hc2;obtain⟨j0,j1⟩:=hin;clear HT3 hc1 hc2 hsl hl hu hvar;go_upto_region 14 with fail;refine wp_region_held_drew (S:=fun W=>Bel WO W) (by kernel_rfl) ((Bel.rfl_ WO).dr) (fun hS=>?_);refine b0A (i:=0) (some 52) (.slice (some ⟨g,0,none⟩) 1 cap) rfl hS (fun W _=>by kernel_rfl) ?_;refine b0A (i:=1) (some 53) (.pointer (some ⟨g,0,none⟩)) rfl hS (fun W _=>by go_simp) ?_;refine b0A (i:=2) (some 54) (.int .i64 X1) rfl hS (fun W hb=>b0I (hb.cell r0)) ?_;refine b0A (i:=3) (some 55) (.slice (some ⟨b,o,none⟩) vs.length cv) rfl hS (fun W _=>by kernel_rfl) ?_;refine b0A (i:=4) (some 56) (.pointer (some ⟨Q,1,none⟩)) rfl hS (fun W _=>by kernel_rfl) ?_;refine b0A (i:=5) (some 57) (.int .i64 n) rfl hS (fun W hb=>b0I ((HKW.out.keep hb).cell (i:=1) (v:=.int .i64 n) rfl)) ?_;refine b0A (i:=6) (some 58) (.pointer (some ⟨b,o+n.toNat,none⟩)) rfl hS (fun W _=>by go_simp) ?_;refine b0A (i:=7) (some 59) (.slice (some ⟨b2,o2,none⟩) l.length cl) rfl hS (fun W hb=>b1F (hb.cell c1)) ?_;refine b0A (i:=8) (some 60) (.int .i64 l.length) rfl hS (fun W _=>by kernel_rfl) ?_;refine b0A (i:=9) (some 61) (.int .i64 ((l.length:Int)-1)) rfl hS (fun W _=>b0n (by omega) (by omega) rfl) ?_;refine b0v (i:=10) (some 62) rfl 48 #[.int .i64 X1,.int .i64 0,.int .i64 ((l.length:Int)-1)] (HBT.out _) ?_;rintro x1 W9 ⟨rfl,rfl⟩;refine⟨_,rfl,hS,fun hS=>?_⟩;refine b0A (i:=11) (some 63) (.bool false) rfl hS (fun W _=>by kernel_rfl) ?_;refine wpAnyH_done (by kernel_rfl) ?_ _;try simp only[Act.put,List.setIfInBounds_toArray,List.set_cons_zero,List.set_cons_succ]
    have HSW:=Lib.hid hS;clear hS;go_upto_region 16 with fail;refine wp_region_held_drew (S:=fun W=>Bel WO W) (by kernel_rfl) (((Bel.rfl_ WO).dr).dr) (fun hS=>?_);refine b0A (i:=0) (some 64) (.slice (some ⟨b,o,none⟩) vs.length cv) rfl hS (fun W _=>by kernel_rfl) ?_;refine b0A (i:=1) (some 65) (.pointer (some ⟨Q,1,none⟩)) rfl hS (fun W _=>by kernel_rfl) ?_;refine b0A (i:=2) (some 66) (.int .i64 n) rfl hS (fun W hb=>b0I ((HKW.out.keep hb).cell (i:=1) (v:=.int .i64 n) rfl)) ?_;refine b0A (i:=3) (some 67) (.pointer (some ⟨b,o+n.toNat,none⟩)) rfl hS (fun W _=>by go_simp) ?_;refine b0A (i:=4) (some 68) (.slice (some ⟨b2,o2,none⟩) l.length cl) rfl hS (fun W hb=>b1F (hb.cell c1)) ?_;refine b0A (i:=5) (some 69) (.slice (some ⟨g,0,none⟩) 1 cap) rfl hS (fun W _=>by kernel_rfl) ?_;refine b0A (i:=6) (some 70) (.pointer (some ⟨g,0,none⟩)) rfl hS (fun W _=>by go_simp) ?_;refine b0A (i:=7) (some 71) (.int .i64 X1) rfl hS (fun W hb=>b0I (hb.cell r0)) ?_;refine b0A (i:=8) (some 72) (.pointer (some ⟨b2,o2+X1.toNat,none⟩)) rfl hS (fun W _=>by go_simp) ?_;refine b0A (i:=9) (some 73) (.int .i64 u) rfl hS (fun W hb=>b0I (hb.cell c2)) ?_;refine b0A (i:=10) (some 4) (.int .i64 u) rfl hS (fun W _=>by kernel_rfl) ?_;refine b0A (i:=11) (some 5) (.int .i64 0) rfl hS (fun W _=>by kernel_rfl) ?_;refine wpAnyH_done (by kernel_rfl) ?_ _;try simp only[Act.put,List.setIfInBounds_toArray,List.set_cons_zero,List.set_cons_succ]
    have HBZ:=Lib.hid (HBW.out.tr hS);clear hS;go_wp2;go_ret2
    exact⟨by rw[HR.out];rfl,HBZ.out⟩
   ·have db:decide (0≤X1∧X1≤(l.length:Int)-1)=false:=decide_eq_false (by omega);rw[db] at HBT;have HR:Hid (T=(0,3)):=Lib.hid (by rw[HT3.out,if_neg hin]);clear HT3 hc1 hsl hl hvar hin;go_upto_region 14 with fail;refine wp_region_held_drew (S:=fun W=>Bel WO W) (by kernel_rfl) ((Bel.rfl_ WO).dr) (fun hS=>?_);refine b0A (i:=0) (some 52) (.slice (some ⟨g,0,none⟩) 1 cap) rfl hS (fun W _=>by kernel_rfl) ?_;refine b0A (i:=1) (some 53) (.pointer (some ⟨g,0,none⟩)) rfl hS (fun W _=>by go_simp) ?_;refine b0A (i:=2) (some 54) (.int .i64 X1) rfl hS (fun W hb=>b0I (hb.cell r0)) ?_;refine b0A (i:=3) (some 55) (.slice (some ⟨b,o,none⟩) vs.length cv) rfl hS (fun W _=>by kernel_rfl) ?_;refine b0A (i:=4) (some 56) (.pointer (some ⟨Q,1,none⟩)) rfl hS (fun W _=>by kernel_rfl) ?_;refine b0A (i:=5) (some 57) (.int .i64 n) rfl hS (fun W hb=>b0I ((HKW.out.keep hb).cell (i:=1) (v:=.int .i64 n) rfl)) ?_;refine b0A (i:=6) (some 58) (.pointer (some ⟨b,o+n.toNat,none⟩)) rfl hS (fun W _=>by go_simp) ?_;refine b0A (i:=7) (some 59) (.slice A2 l.length cl) rfl hS (fun W hb=>b1F (hb.cell c1)) ?_;refine b0A (i:=8) (some 60) (.int .i64 l.length) rfl hS (fun W _=>by kernel_rfl) ?_;refine b0A (i:=9) (some 61) (.int .i64 ((l.length:Int)-1)) rfl hS (fun W _=>b0n (by omega) (by omega) rfl) ?_;refine b0v (i:=10) (some 62) rfl 48 #[.int .i64 X1,.int .i64 0,.int .i64 ((l.length:Int)-1)] (HBT.out _) ?_;rintro x1 W9 ⟨rfl,rfl⟩;refine⟨_,rfl,hS,fun hS=>?_⟩;refine b0A (i:=11) (some 63) (.bool true) rfl hS (fun W _=>by kernel_rfl) ?_;refine wpAnyH_done (by kernel_rfl) ?_ _;try simp only[Act.put,List.setIfInBounds_toArray,List.set_cons_zero,List.set_cons_succ]
    have HBZ:=Lib.hid (HBW.out.tr hS);clear hS;go_wp2;go_ret2
    exact⟨by rw[HR.out];rfl,HBZ.out⟩
  ·have d3:(k==3)=false:=by simpa using e3
   obtain⟨x,y,rfl⟩:∃x y,args=[x,y]:=by
    have:=hl0 e3
    match args,this with
    | [x,y],_=>exact⟨x,y,rfl⟩
   have hx0:=HZ.out x (by simp);have hy0:=HZ.out y (by simp);generalize hXV:x.val vs=X at *;generalize hYV:y.val vs=Y at *;obtain⟨X1,X2⟩:=X;obtain⟨Y1,Y2⟩:=Y;simp only at hx0 hy0;subst hx0 hy0
   have HR:Hid (T=opV k X1 Y1):=Lib.hid (by
    rw[HT.out,List.map_cons,hXV,b2Q,if_neg (by simp),if_neg e3,List.map_cons,hYV];dsimp only;rw[if_neg (by simp)])
   obtain⟨g,cap,rfl,-,hcap,hcm,hgc,-⟩:=b2B HO.out (by simp);have r0:=hgc 0 (.int .i64 X1) (by simp[hXV]);have r1:=hgc 1 (.int .i64 Y1) (by simp[hYV]);have HOP:=Lib.hid (fun W=>c1o k X1 Y1 W);clear HT hXV hYV HI HPA HZ hcap hcm hgc;generalize opV k X1 Y1=Z at *;go_upto_region 17 with fail;refine wp_region_held_drew (S:=fun W=>Bel WO W) (by kernel_rfl) ((Bel.rfl_ WO).dr) (fun hS=>?_);refine b0A (i:=0) (some 74) (.pointer (some ⟨Q,0,none⟩)) rfl hS (fun W _=>by kernel_rfl) ?_;refine b0A (i:=1) (some 75) (.int .i64 k) rfl hS (fun W hb=>b0I ((HKW.out.keep hb).cell (i:=0) (v:=.int .i64 k) rfl)) ?_;refine b0A (i:=2) (some 76) (.slice (some ⟨g,0,none⟩) 2 cap) rfl hS (fun W _=>by kernel_rfl) ?_;refine b0A (i:=3) (some 77) (.pointer (some ⟨g,0,none⟩)) rfl hS (fun W _=>by go_simp) ?_;refine b0A (i:=4) (some 78) (.int .i64 X1) rfl hS (fun W hb=>b0I (hb.cell r0)) ?_;refine b0A (i:=5) (some 79) (.slice (some ⟨g,0,none⟩) 2 cap) rfl hS (fun W _=>by kernel_rfl) ?_;refine b0A (i:=6) (some 80) (.pointer (some ⟨g,1,none⟩)) rfl hS (fun W _=>by go_simp) ?_;refine b0A (i:=7) (some 81) (.int .i64 Y1) rfl hS (fun W hb=>b0I (hb.cell r1)) ?_;refine b0v (i:=8) (some 82) rfl 71 #[.int .i64 k,.int .i64 X1,.int .i64 Y1] (HOP.out _) ?_;rintro x1 W9 ⟨rfl,rfl⟩;refine⟨_,rfl,hS,fun hS=>?_⟩;refine b0A (i:=9) (some 83) (.int .i64 Z.1) rfl hS (fun W _=>by kernel_rfl) ?_;refine b0A (i:=10) (some 84) (.int .i64 Z.2) rfl hS (fun W _=>by kernel_rfl) ?_;refine b0A (i:=11) (some 4) (.int .i64 Z.1) rfl hS (fun W _=>by kernel_rfl) ?_;refine b0A (i:=12) (some 5) (.int .i64 Z.2) rfl hS (fun W _=>by kernel_rfl) ?_;refine wpAnyH_done (by kernel_rfl) ?_ _;try simp only[Act.put,List.setIfInBounds_toArray,List.set_cons_zero,List.set_cons_succ]
   have HBZ:=Lib.hid (HBW.out.tr hS);clear hS;go_wp2;go_ret2
   exact⟨by rw[HR.out];rfl,HBZ.out⟩
theorem b8Y(z:List Int)(vs:List (List Int))(hf:b4Z z vs):∀e:PE,b6I 26 z vs e:=
 PE.ind fun k n args ih=>b7v z vs hf k n args ih
end Go.Proofs.Ytgkpplbomciehaa
