/- How many commands there are, by the document: walked. Each lemma states its own conditions. -/
import Derived.Test.YtgkpplbomciehaaStt21
namespace Go.Proofs.Ytgkpplbomciehaa
set_option maxRecDepth 20000
set_option maxHeartbeats 16000000
open Go.RowKit
def c2R(l:List PC)(d n:Int):Int:=if l≠[]∧5<d then 41 else if 41<n then 41 else n
mutual
def PC.many:PC→Int→Int
 | .mk _ _ _ _ _ _ thn els,d=>1+c2R thn (d+1) (b2I thn (d+1) 0)+c2R els (d+1) (b2I els (d+1) 0)
def b2I:List PC→Int→Int→Int
 | [],_,n=>n
 | x::xs,d,n=>if 40<n then n else b2I xs d (n+x.many d)
end
def b2N(l:List PC)(d:Int):Int:=c2R l d (b2I l d 0)
theorem PC.many_eq(x:PC)(d:Int):x.many d=1+b2N x.thn (d+1)+b2N x.els (d+1):=by
 obtain⟨k,v,g,i,e,args,thn,els⟩:=x;rw[PC.many];rfl
theorem c2j(l:List PC)(d n:Int):c2R l d n≤41:=by unfold c2R;split;omega;split<;>omega
theorem b5J{l:List PC}(h:∀x∈l,∀d,0≤x.many d):∀d n,0≤n→n≤b2I l d n:=by
 induction l with
 | nil=>intro d n hn;rw[b2I];omega
 | cons x xs ih =>
  intro d n hn;rw[b2I];split
  ·omega
  ·have h1:=h x (by simp) d;have:=ih (fun y hy=>h y (by simp[hy])) d (n+x.many d) (by omega);omega
theorem b8B{l:List PC}{d n:Int}(h:0≤n):0≤c2R l d n:=by unfold c2R;split;omega;split<;>omega
theorem PC.many_nn:∀x:PC,∀d,0≤x.many d:=
 PC.ind fun k v f i e args thn els h1 h2 d=>by
  rw[PC.many];have a:=b8B (l:=thn) (d:=d+1) (b5J h1 (d+1) 0 (by omega));have b:=b8B (l:=els) (d:=d+1) (b5J h2 (d+1) 0 (by omega));omega
theorem b3M(l:List PC)(d:Int):0≤b2N l d∧b2N l d≤41:=⟨b8B (b5J (fun x _=>PC.many_nn x) d 0 (by omega)),c2j _ _ _⟩
theorem c1j{l:List PC}{d:Int}(hd:d≤5)(h:∀x∈l,(x.fine d=true→x.many d=x.cnt∨(40<x.many d∧40<x.cnt))∧(x.fine d=false→40<x.many d)) :
  ∀n,0≤n→(b1P l d=true→b2I l d n=n+b0r l∨(40<b2I l d n∧40<n+b0r l))∧(b1P l d=false→40<b2I l d n):=by
 induction l with
 | nil=>intro n hn;exact⟨fun _=>Or.inl (by rw[b2I,b0r];simp),fun h=>by rw[b1P] at h;cases h⟩
 | cons x xs ih =>
  intro n hn;have hx:=h x (by simp);have hnn:=PC.many_nn x d;rw[b3E,decide_eq_true hd,Bool.true_and,b2I,b0r];by_cases h4:40<n
  ·rw[if_pos h4];exact⟨fun _=>Or.inr ⟨h4,by omega⟩,fun _=>h4⟩
  rw[if_neg h4];have ih2:=ih (fun y hy=>h y (by simp[hy])) (n+x.many d) (by omega);have hge:=b5J (l:=xs) (fun y _=>PC.many_nn y) d (n+x.many d) (by omega);cases hf:x.fine d with
  | false =>
   have:=hx.2 hf;exact⟨fun h=>by simp at h,fun _=>by omega⟩
  | true =>
   rw[Bool.true_and];refine⟨fun hfx=>?_,fun hfx=>ih2.2 hfx⟩;rcases hx.1 hf with h1 | ⟨h1,h2⟩
   ·rcases ih2.1 hfx with h3 | ⟨h3,h5⟩
    ·left;rw[h3,h1];omega
    ·right;exact⟨h3,by rw[h1] at h5;omega⟩
   ·right;exact⟨by omega,by omega⟩
theorem b6p{l:List PC}{d:Int}(h0:0≤d)(h6:d≤6)(h:∀x∈l,d≤5→(x.fine d=true→x.many d=x.cnt∨(40<x.many d∧40<x.cnt))∧(x.fine d=false→40<x.many d)) :
  (b1P l d=true→(b2N l d=b0r l∧b0r l≤41)∨(40<b2N l d∧40<b0r l))∧(b1P l d=false→40<b2N l d):=by
 unfold b2N c2R;by_cases hd:d≤5
 ·rw[if_neg (by omega)];obtain⟨a,b⟩:=c1j hd (fun x hx=>h x hx hd) 0 (by omega);refine⟨fun hf=>?_,fun hf=>?_⟩
  ·rcases a hf with h1 | ⟨h1,h2⟩
   ·rw[Int.zero_add] at h1;rw[h1];split
    ·right;exact⟨by omega,by omega⟩
    ·left;exact⟨rfl,by omega⟩
   ·right
    refine⟨?_,by omega⟩;split<;>omega
  ·have:=b hf;split<;>omega
 ·cases l with
  | nil=>exact⟨fun _=>Or.inl (by simp[b2I,b0r]),fun hf=>by rw[b1P] at hf;cases hf⟩
  | cons x xs =>
   rw[if_pos ⟨by simp,by omega⟩];exact⟨fun hf=>by rw[b3E,decide_eq_false hd] at hf;simp at hf,fun _=>by omega⟩
theorem PC.many_is:∀x:PC,∀d,0≤d→d≤5→(x.fine d=true→x.many d=x.cnt∨(40<x.many d∧40<x.cnt))∧(x.fine d=false→40<x.many d):=
 PC.ind fun k v f i e args thn els h1 h2 d h0 h5=>by
  have a:=b6p (l:=thn) (d:=d+1) (by omega) (by omega) fun x hx h=>h1 x hx (d+1) (by omega) h;have b:=b6p (l:=els) (d:=d+1) (by omega) (by omega) fun x hx h=>h2 x hx (d+1) (by omega) h;have n1:=b3M thn (d+1);have n2:=b3M els (d+1);rw[PC.many_eq,PC.fine_eq,PC.cnt_eq];simp only[PC.thn,PC.els];cases hf1:b1P thn (d+1) with
  | false =>
   have:=a.2 hf1;exact⟨fun h=>by simp at h,fun _=>by omega⟩
  | true =>
   cases hf2:b1P els (d+1) with
   | false =>
    have:=b.2 hf2;exact⟨fun h=>by simp at h,fun _=>by omega⟩
   | true =>
    refine⟨fun _=>?_,fun h=>by simp at h⟩;rcases a.1 hf1 with h3 | h3<;>rcases b.1 hf2 with h4 | h4
    ·left;omega
    ·right;omega
    ·right;omega
    ·right;omega
theorem b9a(l:List PC):(b1P l 1=true→(b2N l 1=b0r l∧b0r l≤41)∨(40<b2N l 1∧40<b0r l))∧(b1P l 1=false→40<b2N l 1):=
 b6p (by omega) (by omega) fun x _ h=>PC.many_is x 1 (by omega) h
theorem b9Y{l:List PC}{j:Nat}{x:PC}(hx:l[j]? = some x)(d n:Int):b2I (l.drop j) d n=if 40<n then n else b2I (l.drop (j+1)) d (n+x.many d):=by
 obtain⟨hl,rfl⟩:=List.getElem?_eq_some_iff.1 hx;rw[List.drop_eq_getElem_cons hl,b2I]
theorem b9Z(l:List PC)(d:Int){n:Int}(h:40<n):b2I l d n=n:=by
 cases l with
 | nil=>rw[b2I]
 | cons x xs=>rw[b2I,if_pos h]
def b6G(l:List PC):Prop:=∀(d:Int) (v:Value) (W:World),1≤d→d≤6→Sl pcR W v l→Calls Try.prog 54 #[v,.int .i64 d] W fun r w'=>r=.returned (.int .i64 (b2N l d))∧Bel W w'
section
variable {o:Oper}{ρ:Operand→Value}{W:World}{x y:Operand}{t2:TypeId}{b f:Nat}{v:Value}
theorem c1v{k l m:Int}(ho:o.op=.binOp .add 3 x y t2)(hx:ρ x=.int .i64 k)(hy:ρ y=.int .i64 l)(h0:-9223372036854775808≤k+l)(h1:k+l≤9223372036854775807)(hm:k+l=m):(execOp ρ o).run Try.prog W=.ok (.value (.int .i64 m)) W:=by
 subst hm;have hw:IntKind.i64.wrap (k+l)=k+l:=by rw[IntKind.wrap_i64];omega
 simp[execOp,ho,hx,hy,hw,go_sem]
theorem b0U{k l m:Int}(h0:-9223372036854775808≤k+l)(h1:k+l≤9223372036854775807)(ho:o.op=.binOp .add 3 x y t2:=by rfl)(hx:ρ x=.int .i64 k:=by kernel_rfl)(hy:ρ y=.int .i64 l:=by kernel_rfl)(hm:k+l=m:=by rfl):(execOp ρ o).run Try.prog W=.ok (.value (.int .i64 m)) W:=c1v ho hx hy h0 h1 hm
end
theorem b5f(l:List PC)(h:∀x∈l,b6G x.thn∧b6G x.els):b6G l:=by
 intro d v w hd1 hd6 hs;have HM:=Lib.hid h;have HSL:=Lib.hid hs;obtain⟨A,c,rfl,hll⟩:=b0R hs;have HR:Hid (b2N l d=if l≠[]∧5<d then 41 else if 41<b2I l d 0 then 41 else b2I l d 0):=Lib.hid rfl;clear h hs;generalize b2N l d=T at *;go_enter Try.func54,Try.ntmps54;by_cases hl0:0<l.length
 rotate_left
 ·obtain rfl:l=[]:=List.eq_nil_of_length_eq_zero (by omega);have HT:Hid (T=0):=Lib.hid (by rw[HR.out,if_neg (by simp)];rfl);clear HR HM;simp only[List.length_nil];go_wp2;go_loopw [5,6] (fun n i wr=>n=.int .i64 0∧i=.int .i64 0∧Hid (Bel w wr)) (fun _ i _=>0-(intOf i).toNat)
  case atStart=>exact⟨rfl,rfl,Lib.hid (Bel.rfl_ w)⟩
  case round =>
   obtain⟨rfl,rfl,HB⟩:=hrel;go_wp2;go_ret;exact⟨by rw[HT.out];rfl,HB.out⟩
 have dl:decide ((l.length:Int) > 0)=true:=decide_eq_true (by omega);have hne:l≠[]:=by rintro rfl;simp at hl0
 by_cases h5:d > 5
 ·have d5:decide (d > 5)=true:=decide_eq_true h5;have HT:Hid (T=41):=Lib.hid (by rw[HR.out,if_pos ⟨hne,h5⟩]);clear HR HM h5;go_wp2;go_ret;exact⟨by rw[HT.out];rfl,Bel.rfl_ _⟩
 have d5:decide (d > 5)=false:=decide_eq_false h5;have HT:Hid (T=if 41<b2I l d 0 then 41 else b2I l d 0):=Lib.hid (by rw[HR.out,if_neg (by omega)]);have HG0:Hid (b2I (l.drop 0) d 0=b2I l d 0):=Lib.hid rfl;have HB0:=Lib.hid (Bel.rfl_ w);generalize b2I l d 0=G at *;clear HR dl;go_wp2;go_loopw [5,6] (fun n i wr=>∃(j:Nat) (m:Int),i=.int .i64 j∧n=.int .i64 m∧j≤l.length∧0≤m∧m≤200∧Hid (b2I (l.drop j) d m=G)∧Hid (Bel w wr)) (fun _ i _=>l.length-(intOf i).toNat)
 case atStart=>exact⟨0,0,rfl,rfl,Nat.zero_le _,by omega,by omega,HG0,HB0⟩
 case round =>
  obtain⟨j,m,rfl,rfl,hj,hm0,hm1,HG,HB⟩:=hrel;obtain⟨WO,hWO⟩:∃W,W=wr:=⟨_,rfl⟩;subst hWO;clear HG0 HB0
  have fin:(j=l.length∨40<m)→G=m:=fun h=>by
   rw[←HG.out];rcases h with h | h
   ·rw[List.drop_eq_nil_of_le (by omega),b2I]
   ·exact b9Z _ _ h
  by_cases hlt:j<l.length
  rotate_left
  ·have hdd:decide ((j:Int)<l.length)=false:=decide_eq_false (by omega);have HGM:=Lib.hid (fin (Or.inl (by omega)));clear fin HG;by_cases h41:m > 41
   ·have d41:decide (m > 41)=true:=decide_eq_true h41;have HT2:Hid (T=41):=Lib.hid (by rw[HT.out,HGM.out,if_pos h41]);clear HT HGM h41;go_wp2;go_ret;exact⟨by rw[HT2.out];rfl,HB.out⟩
   ·have d41:decide (m > 41)=false:=decide_eq_false h41;have HT2:Hid (T=m):=Lib.hid (by rw[HT.out,HGM.out,if_neg h41]);clear HT HGM h41;go_wp2;go_ret;exact⟨by rw[HT2.out];rfl,HB.out⟩
  have hdd:decide ((j:Int)<l.length)=true:=decide_eq_true (by omega);by_cases h40:m≤40
  rotate_left
  ·have d40:decide (m≤40)=false:=decide_eq_false h40;have HGM:=Lib.hid (fin (Or.inr (by omega)));clear fin HG;by_cases h41:m > 41
   ·have d41:decide (m > 41)=true:=decide_eq_true h41;have HT2:Hid (T=41):=Lib.hid (by rw[HT.out,HGM.out,if_pos h41]);clear HT HGM h41;go_wp2;go_ret;exact⟨by rw[HT2.out];rfl,HB.out⟩
   ·have d41:decide (m > 41)=false:=decide_eq_false h41;have HT2:Hid (T=m):=Lib.hid (by rw[HT.out,HGM.out,if_neg h41]);clear HT HGM h41;go_wp2;go_ret;exact⟨by rw[HT2.out];rfl,HB.out⟩
  have d40:decide (m≤40)=true:=decide_eq_true h40;clear fin;obtain⟨x,hx⟩:∃x,l[j]? = some x:=⟨_,List.getElem?_eq_getElem hlt⟩;obtain⟨b,o,cs,rfl,hcs,hca⟩:=HSL.out.elem hx;obtain⟨vi,ve,va,vt,vs,hq,-,-,-,hT,hE⟩:=b1Z hcs;have HG2:Hid (b2I (l.drop (j+1)) d (m+(1+b2N x.thn (d+1)+b2N x.els (d+1)))=G):=Lib.hid (by rw[←HG.out,b9Y hx,if_neg (by omega),PC.many_eq]);have HMT:=Lib.hid (fun W (hb:Bel w W)=>(HM.out x (List.mem_of_getElem? hx)).1 (d+1) vt W (by omega) (by omega) (hT.keep hb));have HME:=Lib.hid (fun W (hb:Bel w W)=>(HM.out x (List.mem_of_getElem? hx)).2 (d+1) vs W (by omega) (by omega) (hE.keep hb));have b1:=b3M x.thn (d+1);have b2:=b3M x.els (d+1);have c6:=hca 10 vt (by rw[hq];rfl);have c7:=hca 11 vs (by rw[hq];rfl);have C6:=HB.out.cell c6;have C7:=HB.out.cell c7;have i0:(0:Int)≤j:=by omega
  have i1:(j:Int)<l.length:=by omega
  obtain⟨At,ct,rfl,-⟩:=b0R hT;obtain⟨Ae,ce,rfl,-⟩:=b0R hE;clear HG hcs hca hq hT hE hx c6 c7;generalize hmt:b2N x.thn (d+1)=mt at *;generalize hme:b2N x.els (d+1)=me at *;clear hmt hme;simp only[pcR] at C6 C7;go_upto_region 7 with fail;refine wp_region_held_drew (S:=fun W=>Bel WO W) (by kernel_rfl) ((Bel.rfl_ WO).dr) (fun hS=>?_);refine b0A (i:=0) (some 24) (.int .i64 m) rfl hS (fun W _=>by kernel_rfl) ?_;refine b0A (i:=1) (some 25) (.slice (some ⟨b,o,none⟩) l.length c) rfl hS (fun W _=>by kernel_rfl) ?_;refine b0A (i:=2) (some 26) (.int .i64 j) rfl hS (fun W _=>by kernel_rfl) ?_;refine b0A (i:=3) (some 27) (.pointer (some ⟨b,o+j*12,none⟩)) rfl hS (fun W _=>by go_simp) ?_;refine b0A (i:=4) (some 28) (.pointer (some ⟨b,o+j*12+10,none⟩)) rfl hS (fun W _=>by kernel_rfl) ?_;refine b0A (i:=5) (some 29) (.slice At x.thn.length ct) rfl hS (fun W hb=>b0p (hb.cell C6)) ?_;refine b0A (i:=6) (some 30) (.int .i64 d) rfl hS (fun W _=>by kernel_rfl) ?_;refine b0A (i:=7) (some 31) (.int .i64 (d+1)) rfl hS (fun W _=>b0U (k:=d) (l:=1) (by omega) (by omega)) ?_;refine b0A (i:=10) (some 34) (.slice (some ⟨b,o,none⟩) l.length c) rfl hS (fun W _=>by kernel_rfl) ?_;refine b0A (i:=11) (some 35) (.int .i64 j) rfl hS (fun W _=>by kernel_rfl) ?_;refine b0A (i:=12) (some 36) (.pointer (some ⟨b,o+j*12,none⟩)) rfl hS (fun W _=>by go_simp) ?_;refine b0A (i:=13) (some 37) (.pointer (some ⟨b,o+j*12+11,none⟩)) rfl hS (fun W _=>by kernel_rfl) ?_;refine b0A (i:=14) (some 38) (.slice Ae x.els.length ce) rfl hS (fun W hb=>b0p (hb.cell C7)) ?_;refine b0A (i:=15) (some 39) (.int .i64 d) rfl hS (fun W _=>by kernel_rfl) ?_;refine b0A (i:=16) (some 40) (.int .i64 (d+1)) rfl hS (fun W _=>b0U (k:=d) (l:=1) (by omega) (by omega)) ?_;refine b0v (i:=8) (some 32) rfl 54 #[.slice At x.thn.length ct,.int .i64 (d+1)] (HMT.out _ (HB.out.tr hS)) ?_;rintro x1 W9 ⟨rfl,hb⟩;refine⟨_,rfl,hS.tr hb,fun hS=>?_⟩;refine b0A (i:=9) (some 33) (.int .i64 (1+mt)) rfl hS (fun W _=>b0U (k:=1) (l:=mt) (by omega) (by omega)) ?_
  refine b0v (i:=17) (some 41) rfl 54 #[.slice Ae x.els.length ce,.int .i64 (d+1)] (HME.out _ (HB.out.tr hS)) ?_;rintro x1 W10 ⟨rfl,hb⟩;refine⟨_,rfl,hS.tr hb,fun hS=>?_⟩;refine b0A (i:=18) (some 42) (.int .i64 ((1+mt)+me)) rfl hS (fun W _=>b0U (k:=1+mt) (l:=me) (by omega) (by omega)) ?_;refine b0A (i:=19) (some 43) (.int .i64 (m+((1+mt)+me))) rfl hS (fun W _=>b0U (k:=m) (l:=((1+mt)+me)) (by omega) (by omega)) ?_;refine b0A (i:=20) (some 5) (.int .i64 (m+((1+mt)+me))) rfl hS (fun W _=>by kernel_rfl) ?_;refine wpAnyH_done (by kernel_rfl) ?_ _;try simp only[Act.put,List.setIfInBounds_toArray,List.set_cons_zero,List.set_cons_succ]
  have HB2:=Lib.hid (HB.out.tr hS);clear hS C6 C7;go_wp2;go_roundw
  case rel=>exact⟨j+1,m+(1+mt+me),by go_num,rfl,by omega,by omega,by omega,HG2,HB2⟩
  case measure=>simp[intOf];omega
theorem b7f(l:List PC):b6G l:=b5f l fun x _=>(PC.ind (p:=fun x=>b6G x.thn∧b6G x.els) (fun _k _v _f _i _e _args thn els h1 h2=>⟨b5f thn h1,b5f els h2⟩)) x
theorem b3e(e:PE)(val:Value)(w:World)(h:PEV w e val):Calls Try.prog 56 #[val] w fun r w'=>r=.returned (.bool e.none_)∧Bel w w':=by
 obtain⟨v,rfl,hv⟩:=h;obtain⟨A,c,rfl,-⟩:=b0R hv;have HN:Hid (e.none_=(decide (e.kind=0) && decide (e.n=0) && decide (e.args.length=0))):=Lib.hid rfl;have HB:Hid (Bel w (w.alloc (.cells #[.int .i64 e.kind,.int .i64 e.n,.slice A e.args.length c] 47))):=Lib.hid ((Bel.rfl_ w).al _);clear hv;generalize e.none_=T at *;generalize e.kind=k at *;generalize e.n=n at *;generalize e.args.length=m at *;go_enter Try.func56,Try.ntmps56;by_cases h0:k=0
 rotate_left
 ·have d0:(k==0)=false:=by simpa using h0
  have HR:Hid (T=false):=Lib.hid (by rw[HN.out,decide_eq_false h0];rfl);clear HN h0;go_wp2;go_ret;exact⟨by rw[HR.out];rfl,HB.out⟩
 subst h0;by_cases h1:n=0
 rotate_left
 ·have d0:(n==0)=false:=by simpa using h1
  have HR:Hid (T=false):=Lib.hid (by rw[HN.out,decide_eq_false h1];rfl);clear HN h1;go_wp2;go_ret;exact⟨by rw[HR.out];rfl,HB.out⟩
 subst h1;by_cases h2:m=0
 ·subst h2;have HR:Hid (T=true):=Lib.hid HN.out;clear HN;go_wp2;go_ret;exact⟨by rw[HR.out];rfl,HB.out⟩
 ·have d0:((m:Int)==0)=false:=by rw[beq_eq_false_iff_ne];omega
  have HR:Hid (T=false):=Lib.hid (by rw[HN.out,decide_eq_false h2];rfl);clear HN h2;go_wp2;go_ret;exact⟨by rw[HR.out];rfl,HB.out⟩
abbrev PGT:TypeId:=40
section
variable {o:Oper}{ρ:Operand→Value}{W:World}{x:Operand}{b f:Nat}{v:Value}
theorem c4a{A:Option Addr}{n c:Nat}(ho:o.op=.load PGT x)(hx:ρ x=.pointer (some ⟨b,f,none⟩))(hc:W.cell? ⟨b,f,none⟩=some (.slice A n c)):(execOp ρ o).run Try.prog W=.ok (.value (.agg #[.slice A n c])) W:=by
 simp[execOp,ho,hx,hc,go_sem]
theorem b1b{A:Option Addr}{n c:Nat}(hc:W.cell? ⟨b,f,none⟩=some (.slice A n c))(ho:o.op=.load PGT x:=by rfl)(hx:ρ x=.pointer (some ⟨b,f,none⟩):=by kernel_rfl):(execOp ρ o).run Try.prog W=.ok (.value (.agg #[.slice A n c])) W:=c4a ho hx hc
end
theorem RnM.events{w0 w:World}{ps:List PF}{fuel:Int}{fs:FS}{L r:Nat}{inp:List Int}{steps made deep:Int}{out:List Ev}(h:RnM w0 ps fuel fs L r w inp steps made deep out):∃ve,w.cell? ⟨r,7,none⟩=some ve∧w.ownsRow w0.heap.size EVT 6 ve out.length (evC out):=by
 obtain⟨-,-,-,vp,vin,vf,ve,hB,-,-,-,-,hev⟩:=h;exact⟨ve,hB.cell rfl,hev⟩
theorem Mc.back_main{ps:List PF}{fuel:Int}{σ:Mc}{F:Fr}(hfr:σ.frames=[F])(ht:F.tasks=[.back]):σ.do_ ps fuel=σ.end_ (-1) 0:=by
 rw[Mc.do_back hfr ht];rfl
theorem b7r{ps:List PF}{inp:List Int}{n:Nat}{G:PF}(hn:ps.length=n+1)(hG:ps.getD n noF=G):(b1R ps inp).frames=[⟨0,n,-1,b0c G.sizes,b1G G.cmds (b0l ps n)++[.back]⟩]:=by
 have h1:ps.length-1=n:=by omega
 have h2:(ps.length:Int)-1=n:=by omega
 unfold b1R;rw[h1,h2,hG]
theorem c3H(ps:List PF)(hp:Prog ps)(inp:List Int)(hin:∀n∈inp,Num n)(fuel:Int)(hf0:0≤fuel)(hf1:fuel≤10000)(vp vi:Value)(w:World)(h:Sl pfR w vp ps)(hi:Sl b2l w vi inp) :
  Calls Try.prog 73 #[.agg #[vp],vi,.int .i64 fuel] w fun r w'=>∃u out,r=.returned u∧Ran ps inp fuel out∧w'.ownsRow w.heap.size EVT 6 u out.length (evC out)∧Bel w w':=by
 have HSL:=Lib.hid h;have HIN:=Lib.hid hi;have HPR:=Lib.hid hp;have HNU:=Lib.hid hin;have HF0:=Lib.hid hf0;have HF1:=Lib.hid hf1;obtain⟨n,hn⟩:∃n,ps.length=n+1:=⟨ps.length-1,by have:=hp.pos;omega⟩;have hn6:n+1≤6:=by have:=hp.six;omega
 have hg:ps[n]? = some (ps.getD n noF):=by rw[List.getD_eq_getElem?_getD,List.getElem?_eq_getElem (by omega)];rfl
 obtain⟨A,c,rfl,-⟩:=b0R h;obtain⟨Ai,ci,rfl,-⟩:=b0R hi;obtain⟨b,o,fcs,rfl,hfc,hfa⟩:=h.elem hg;have HFA:=Lib.hid hfa;have HFN:=Lib.hid (hp.fns _ _ hg);have HCM:=Lib.hid (hp.cmds hg);obtain⟨vz2,vc2,vr2,hfq,hsz,hcm,-⟩:=hfc;have HK1:Hid (fcs[1]? = some vz2):=Lib.hid (by rw[hfq];rfl);have HK2:Hid (fcs[2]? = some vc2):=Lib.hid (by rw[hfq];rfl);have HVZ:=Lib.hid hsz;have HVC:=Lib.hid hcm;have HST:=Lib.hid (Good.start hp hin hf0);have HNL:=Lib.hid hn;rw[hn] at HSL;have HB1:Hid (Bel w (w.alloc (.cells #[.slice (some ⟨b,o,none⟩) (n+1) c] PGT))):=Lib.hid ((Bel.rfl_ w).al _);have HP1:=Lib.hid (Blk.new w PGT #[.slice (some ⟨b,o,none⟩) (n+1) c]);have c0:=HP1.out.cell (i:=0) rfl;rw[hn];clear h hi hp hin hf0 hf1 hn hg hfa hfq hsz hcm;generalize hG:ps.getD n noF=G at *;have HGG:=Lib.hid hG;clear hG;go_enter Try.func73,Try.ntmps73;go_upto_region 2 with fail;generalize hW1:w.alloc (.cells #[.slice (some ⟨b,o,none⟩) (n+1) c] PGT)=W1 at *;clear hW1;generalize hQ:w.heap.size=Q at *;have HQ:=Lib.hid hQ;clear hQ c0;refine wp_region_held_drew (S:=fun W=>Bel W1 W) (by kernel_rfl) ((Bel.rfl_ W1).dr) (fun hS=>?_);refine b0A (i:=0) (some 14) (.agg #[.slice (some ⟨b,o,none⟩) (n+1) c]) rfl hS (fun W hb=>b1b ((HP1.out.keep hb).cell (i:=0) rfl)) ?_;refine b0A (i:=1) (some 15) (.slice Ai inp.length ci) rfl hS (fun W _=>by kernel_rfl) ?_;refine b0A (i:=2) (some 16) (.int .i64 fuel) rfl hS (fun W _=>by kernel_rfl) ?_;refine b0A (i:=3) (some 17) (.agg #[.slice (some ⟨b,o,none⟩) (n+1) c]) rfl hS (fun W hb=>b1b ((HP1.out.keep hb).cell (i:=0) rfl)) ?_;refine b0v (i:=4) (some 18) rfl 99 #[.agg #[.slice (some ⟨b,o,none⟩) (n+1) c]] (c0Q ps HPR.out _ W1.drew (by rw[←HNL.out];exact(HNL.out▸HSL.out:Sl pfR w (.slice (some ⟨b,o,none⟩) ps.length c) ps).keep (HB1.out.tr hS))) ?_;rintro y W2 ⟨u,rfl,hown,hb2⟩;obtain⟨Au,cu,rfl⟩:=b3Q hown;have HO2:=Lib.hid hown;have HB2:=Lib.hid hb2;refine⟨_,rfl,hS.tr hb2,fun hS=>?_⟩;clear hown hb2
 refine b0A (i:=5) (some 19) (.agg #[.slice (some ⟨b,o,none⟩) (n+1) c,.slice Ai inp.length ci,.int .i64 fuel,.int .i64 0,.int .i64 1,.int .i64 1,.slice Au ps.length cu,.slice none 0 0]) rfl hS (fun W _=>by kernel_rfl) ?_;refine c0r (i:=6) (some 20) (by kernel_rfl) rfl rfl (by kernel_rfl) (.pointer (some ⟨W2.heap.size,0,none⟩)) (W2.alloc (.cells #[.slice (some ⟨b,o,none⟩) (n+1) c,.slice Ai inp.length ci,.int .i64 fuel,.int .i64 0,.int .i64 1,.int .i64 1,.slice Au ps.length cu,.slice none 0 0] RNT)) (by kernel_rfl) (hS.al _) (fun hS=>?_);refine b0A (i:=7) (some 8) (.pointer (some ⟨W2.heap.size,0,none⟩)) rfl hS (fun W _=>by kernel_rfl) ?_;refine wpAnyH_done (by kernel_rfl) ?_ _;try simp only[Act.put,List.setIfInBounds_toArray,List.set_cons_zero,List.set_cons_succ]
 have HB3:Hid (Bel w (W2.alloc (.cells #[.slice (some ⟨b,o,none⟩) (n+1) c,.slice Ai inp.length ci,.int .i64 fuel,.int .i64 0,.int .i64 1,.int .i64 1,.slice Au ps.length cu,.slice none 0 0] RNT))):=Lib.hid (((HB1.out.dr).tr HB2.out).al _);have HR3:Hid (RnM w ps fuel ⟨firsts ps ps.length,.slice Au ps.length cu⟩ (W2.alloc (.cells #[.slice (some ⟨b,o,none⟩) (n+1) c,.slice Ai inp.length ci,.int .i64 fuel,.int .i64 0,.int .i64 1,.int .i64 1,.slice Au ps.length cu,.slice none 0 0] RNT)).heap.size W2.heap.size (W2.alloc (.cells #[.slice (some ⟨b,o,none⟩) (n+1) c,.slice Ai inp.length ci,.int .i64 fuel,.int .i64 0,.int .i64 1,.int .i64 1,.slice Au ps.length cu,.slice none 0 0] RNT)) inp 0 1 1 []):=Lib.hid ⟨HB3.out,((HB1.out.dr).tr HB2.out).size,by rw[b1r];exact Nat.lt_succ_self _,_,_,_,_,Blk.new W2 RNT _,(HNL.out▸HSL.out:Sl pfR w (.slice (some ⟨b,o,none⟩) (n+1) c) ps),HIN.out,by dsimp only;rw[b3m];exact b6t (((Bel.rfl_ W2).al _).own HO2.out) (HB1.out.dr).size,⟨fun k hk=>by have:=c2Z HO2.out k hk;rw[b1r];omega,rfl⟩,World.ownsRow_nil _ _ _ _⟩;have HP3:=Lib.hid (HP1.out.keep hS);clear hS HO2 HB2 HP1 HB1;generalize W2.alloc (.cells #[.slice (some ⟨b,o,none⟩) (n+1) c,.slice Ai inp.length ci,.int .i64 fuel,.int .i64 0,.int .i64 1,.int .i64 1,.slice Au ps.length cu,.slice none 0 0] RNT)=W3 at *;generalize W2.heap.size=R at *;have c0:W3.cell? ⟨Q,0,none⟩=some (.slice (some ⟨b,o,none⟩) (n+1) c):=HP3.out.cell rfl;have c1:W3.cell? ⟨b,o+n*6+1,none⟩=some vz2:=HB3.out.cell (HFA.out 1 _ HK1.out);go_wp2_with fail
 refine(b5S G.sizes HFN.out.sz (by have:=HFN.out.par3;have:=HFN.out.var6;omega) vz2 W3 (HVZ.out.keep HB3.out)).mono ?_;rintro y W4 ⟨u0,rfl,hvo,hb4⟩;obtain⟨A0,c2,rfl⟩:=hvo.lit;have HB5:Hid (Bel W3 (W4.alloc (.cells #[.int .i64 0,.int .i64 (-1),.slice A0 (b0c G.sizes).length c2] PRT))):=Lib.hid (hb4.al _);have HF5:Hid (FrM (W4.alloc (.cells #[.int .i64 0,.int .i64 (-1),.slice A0 (b0c G.sizes).length c2] PRT)) W3.heap.size W4.heap.size 0 (-1) (b0c G.sizes)):=Lib.hid ⟨hb4.size,_,Blk.new W4 PRT _,hvo.keep ((Bel.rfl_ W4).al _)⟩;clear hvo hb4 c0 c1;go_upto_region 4 with fail;generalize hW5:W4.alloc (.cells #[.int .i64 0,.int .i64 (-1),.slice A0 (b0c G.sizes).length c2] PRT)=W5 at *;clear hW5;generalize W4.heap.size=FB at *;have HR5:=Lib.hid (RnM.keep HR3.out HB5.out);have HP5:=Lib.hid (HP3.out.keep HB5.out);obtain⟨h6,hfo,hfl2⟩:=RnM.first HR5.out
 obtain⟨bi,ci2,hfv,hbo,cur,hbi,hcur⟩:=own_int hfo rfl (b7W ps (show n<ps.length by have:=HNL.out;omega));dsimp only at hfv hbo h6 hfl2;rw[b3m] at hfv;injection hfv with he1 _ he2;subst he1 he2;have HBI:=Lib.hid (hfl2 bi rfl);have HCUR:=Lib.hid hcur;have HBId:=Lib.hid (hbi.keep ((Bel.rfl_ W5).dr));have HPd:=Lib.hid (HP5.out.keep ((Bel.rfl_ W5).dr));have HBd:=Lib.hid (HB3.out.tr (HB5.out.dr));have hS0:W5.drew.cell? ⟨Q,0,none⟩=some (.slice (some ⟨b,o,none⟩) (n+1) c)∧W5.drew.cell? ⟨b,o+n*6+2,none⟩=some vc2∧W5.drew.cell? ⟨R,6,none⟩=some (.slice (some ⟨bi,0,none⟩) ps.length cu)∧W5.drew.cell? ⟨bi,n,none⟩=some (.int .i64 (b0l ps n)):=⟨HPd.out.cell rfl,HBd.out.cell (HFA.out 2 _ HK2.out),h6,HBId.out.cell hcur⟩
 have HAT:Hid (AtS ⟨w,ps,fuel,⟨firsts ps ps.length,.slice (some ⟨bi,0,none⟩) ps.length cu⟩,W3.heap.size,R⟩ ⟨W3.heap.size,FB,0,n,[]⟩ (b1G G.cmds (b0l ps n)++[.back]) (b1R ps inp) W5.drew):=Lib.hid (by
  obtain⟨f,hf⟩:=HST.out;have hfr:=hf.fr;rw[b7r HNL.out HGG.out] at hfr;obtain rfl:=(List.cons.inj hfr).1;exact⟨_,hf,rfl,rfl,rfl,HF5.out.keep ((Bel.rfl_ W5).dr),RnM.keep HR5.out ((Bel.rfl_ W5).dr)⟩)
 have HALL:=Lib.hid (b9x ⟨w,ps,fuel,⟨firsts ps ps.length,.slice (some ⟨bi,0,none⟩) ps.length cu⟩,W3.heap.size,R⟩ HPR.out HF1.out ⟨fun i hi=>b7W ps hi,b3m ps _⟩ fuel.toNat ⟨W3.heap.size,FB,0,n,[]⟩ G.cmds (b0l ps n) [.back] (b1R ps inp) W5.drew vc2 HAT.out (Nat.le_refl _) HVC.out (by have:=HF0.out;show fuel-0≤_;omega) HCM.out.1 (by have:=HCM.out.2.1;have:=HCM.out.1;omega));have i0:(n:Int)<ps.length:=by have:=HNL.out;omega
 clear h6 hfo hfl2 hbo hbi hcur;refine wp_region_held_drew (S:=fun W=>W.cell? ⟨Q,0,none⟩=some (.slice (some ⟨b,o,none⟩) (n+1) c)∧W.cell? ⟨b,o+n*6+2,none⟩=some vc2∧W.cell? ⟨R,6,none⟩=some (.slice (some ⟨bi,0,none⟩) ps.length cu)∧W.cell? ⟨bi,n,none⟩=some (.int .i64 (b0l ps n))) (by kernel_rfl) hS0 (fun hS=>?_);refine b0A (i:=0) (some 30) (.pointer (some ⟨R,0,none⟩)) rfl hS (fun W _=>by kernel_rfl) ?_;refine b0A (i:=1) (some 31) (.pointer (some ⟨FB,0,none⟩)) rfl hS (fun W _=>by kernel_rfl) ?_;refine b0A (i:=2) (some 32) (.pointer (some ⟨Q,0,none⟩)) rfl hS (fun W _=>by kernel_rfl) ?_;refine b0A (i:=3) (some 33) (.slice (some ⟨b,o,none⟩) (n+1) c) rfl hS (fun W hb=>b3X rfl (by kernel_rfl) hb.1) ?_;refine b0A (i:=4) (some 34) (.int .i64 n) rfl hS (fun W _=>by kernel_rfl) ?_;refine b0A (i:=5) (some 35) (.pointer (some ⟨b,o+n*6,none⟩)) rfl hS (fun W _=>by go_simp;exact fun h=>absurd h (by omega)) ?_;refine b0A (i:=6) (some 36) (.pointer (some ⟨b,o+n*6+2,none⟩)) rfl hS (fun W _=>by kernel_rfl) ?_;refine b0A (i:=7) (some 37) (vc2) rfl hS (fun W hb=>b0p hb.2.1) ?_;refine b0A (i:=8) (some 38) (.pointer (some ⟨R,0,none⟩)) rfl hS (fun W _=>by kernel_rfl) ?_;refine b0A (i:=9) (some 39) (.pointer (some ⟨R,0,none⟩)) rfl hS (fun W _=>by kernel_rfl) ?_;refine b0A (i:=10) (some 40) (.pointer (some ⟨R,6,none⟩)) rfl hS (fun W _=>by kernel_rfl) ?_;refine b0A (i:=11) (some 41) (.slice (some ⟨bi,0,none⟩) ps.length cu) rfl hS (fun W hb=>b1F hb.2.2.1) ?_;refine b0A (i:=12) (some 42) (.int .i64 n) rfl hS (fun W _=>by kernel_rfl) ?_;refine b0A (i:=13) (some 43) (.pointer (some ⟨bi,n,none⟩)) rfl hS (fun W _=>by go_simp) ?_;refine b0A (i:=14) (some 44) (.int .i64 (b0l ps n)) rfl hS (fun W hb=>b0I hb.2.2.2) ?_;refine b0v (i:=15) (some 45) rfl 114 #[.pointer (some ⟨R,0,none⟩),.pointer (some ⟨FB,0,none⟩),vc2,.int .i64 (b0l ps n)] (HALL.out) ?_;rintro y W6 ⟨b1,rfl,hres⟩
 have hkeep:W6.cell? ⟨R,6,none⟩=some (.slice (some ⟨bi,0,none⟩) ps.length cu)∧Bel w W6:=by
  obtain⟨σ3,-,-,h2,h3⟩:=hres;cases b1 with
  | true=>obtain⟨F3,-,-,-,-,-,h4⟩:=h2 rfl;exact⟨(RnM.first h4).1,RnM.bel h4⟩
  | false=>obtain⟨-,d,h4⟩:=h3 rfl;exact⟨(RnM.first h4).1,RnM.bel h4⟩
 have hst:Stays w.heap.size W3.heap.size W5.drew W6:=by obtain⟨σ3,-,h1,-,-⟩:=hres;exact h1
 refine⟨_,rfl,⟨(HPd.out.kept hst.j HPd.out.lt (by decide)).cell rfl,hkeep.2.cell (HFA.out 2 _ HK2.out),hkeep.1,(HBId.out.kept hst.k HBI.out (by decide)).cell HCUR.out⟩,fun hS=>?_⟩;refine wpAnyH_done (by kernel_rfl) ?_ _;try simp only[Act.put,List.setIfInBounds_toArray,List.set_cons_zero,List.set_cons_succ]
 clear hS hS0 hkeep hst HALL HPd HBId HBI HCUR HFA HBd HAT;obtain⟨σ3,hr3,-,ht3,hf3⟩:=hres;have HRR:=Lib.hid hr3;clear hr3;cases b1 with
 | false =>
  obtain⟨ho,d,hd⟩:=hf3 rfl;have HO:=Lib.hid ho;have HDD:=Lib.hid hd;obtain⟨ve,hc7,hev⟩:=RnM.events hd;have HEV:=Lib.hid hev;clear ho hd hf3 ht3 hev;go_wp2;go_ret;exact⟨_,rfl,_,⟨σ3,HRR.out,HO.out,rfl⟩,HEV.out,RnM.bel HDD.out⟩
 | true =>
  obtain⟨F3,hgd,hn3,-,ht3k,hfr3,hru3⟩:=ht3 rfl;have HRCH:=Lib.hid (HRR.out.tr (Reach.one hgd.on (Mc.back_main hgd.fr ht3k)));have HNUM:Hid (σ3.num=0):=Lib.hid (by unfold Mc.num;rw[hgd.fr];exact hn3);have HEND:=Lib.hid (b4f hru3 (by have:=(hgd.outs HF1.out).1;omega) hfr3 (-1) 0);clear hf3 ht3 hgd hn3 ht3k hfr3 hru3;go_wp2_with fail
  refine HEND.out.mono ?_;rintro y W7 ⟨rfl,hr7,-⟩;obtain⟨ve,hc7,hev⟩:=RnM.events hr7;have HEV:=Lib.hid hev;have HB7:=Lib.hid (RnM.bel hr7);clear hev hr7 HEND;go_wp2;go_ret;refine⟨_,_,rfl,⟨_,HRCH.out,rfl,rfl⟩,?_,HB7.out⟩;unfold Mc.end_;dsimp only;rw[HNUM.out];exact HEV.out
end Go.Proofs.Ytgkpplbomciehaa
