/- Programs in plain words: how great they are, what is wrong with them. Each lemma states its own conditions. -/
import Derived.Test.YtgkpplbomciehaaStt01
namespace Go.Proofs.Ytgkpplbomciehaa
open Go.RowKit
mutual
def PE.size:PE→Int→Int
 | .mk _ _ args,m=>b2r args 1 m
def b2r:List PE→Int→Int→Int
 | [],a,_=>a
 | x::xs,a,m=>if m<a then a else b2r xs (a+x.size (m-a)) m
end
theorem c1z{xs:List PE}(h:∀x∈xs,∀m,0≤m→1≤x.size m∧x.size m≤m+1):∀a m,1≤a→a≤m+1→1≤b2r xs a m∧b2r xs a m≤m+1:=by
 induction xs with
 | nil=>intro a m h1 h2;rw[b2r];exact⟨h1,h2⟩
 | cons x xs ih =>
  intro a m h1 h2;rw[b2r];split
  ·exact⟨h1,h2⟩
  ·obtain⟨h3,h4⟩:=h x (by simp) (m-a) (by omega);exact ih (fun y hy=>h y (by simp[hy])) _ _ (by omega) (by omega)
theorem PE.size_le:∀q:PE,∀m,0≤m→1≤q.size m∧q.size m≤m+1:=
 PE.ind fun k n args ih m hm=>by rw[PE.size];exact c1z ih 1 m (by omega) (by omega)
theorem b3t{args:List PE}{k:Nat}{x:PE}(hx:args[k]? = some x)(a m:Int):b2r (args.drop k) a m=if m<a then a else b2r (args.drop (k+1)) (a+x.size (m-a)) m:=by
 obtain⟨hl,rfl⟩:=List.getElem?_eq_some_iff.1 hx;rw[List.drop_eq_getElem_cons hl,b2r]
theorem b7o{args:List PE}{k:Nat}(h:args.length≤k)(a m:Int):b2r (args.drop k) a m=a:=by
 rw[List.drop_eq_nil_of_le h,b2r]
def b1B(k:Int):Int:=if k<1∨10<k then -1 else if k≤2 then 0 else if k=3 then 1 else 2
def orE(a b:Int):Int:=if a=0 then b else a
def b1Y(z:List Int)(e:PE):Int:=
 if b1B e.kind<0 then 7
 else if(e.args.length:Int)≠b1B e.kind then 1
 else if e.kind=1 then(if -9999999≤e.n∧e.n≤9999999 then 0 else 3)
 else if e.kind≤3 then
  (if 0≤e.n∧e.n<z.length then(if e.kind=2∧0<z.getD e.n.toNat 0∨e.kind=3∧z.getD e.n.toNat 0=0 then 7 else 0) else 5)
 else if e.n≠0 then 3 else 0
mutual
def PE.all:PE→List PE
 | .mk k n args=>.mk k n args::b3w args
def b3w:List PE→List PE
 | []=>[]
 | x::xs=>x.all++b3w xs
end
mutual
def PE.parts(z:List Int):PE→Int
 | .mk k n args=>orE (b1Y z (.mk k n args)) (b2h z args)
def b2h(z:List Int):List PE→Int
 | []=>0
 | x::xs=>orE (x.parts z) (b2h z xs)
end
def b2D(z:List Int):List PE→Int
 | []=>0
 | x::xs=>orE (b1Y z x) (b2D z xs)
theorem b2J(a b c:Int):orE (orE a b) c=orE a (orE b c):=by
 unfold orE;by_cases h:a=0
 ·rw[if_pos h,if_pos h]
 ·rw[if_neg h,if_neg h,if_neg h]
theorem b2v(a:Int):orE a 0=a:=by
 unfold orE;split
 ·rename_i h;exact h.symm
 ·rfl
theorem b6O(z:List Int):∀xs ys:List PE,b2D z (xs++ys)=orE (b2D z xs) (b2D z ys)
 | [],ys=>rfl
 | x::xs,ys=>by rw[List.cons_append,b2D,b2D,b6O z xs ys,b2J]
theorem b7j{z:List Int}{xs:List PE}(h:∀x∈xs,x.parts z=b2D z x.all):b2h z xs=b2D z (b3w xs):=by
 induction xs with
 | nil=>rfl
 | cons x xs ih=>rw[b2h,b3w,b6O,h x (by simp),ih fun y hy=>h y (by simp[hy])]
theorem PE.parts_first(z:List Int):∀e:PE,e.parts z=b2D z e.all:=
 PE.ind fun k n args ih=>by rw[PE.parts,PE.all,b2D,b7j ih]
def PE.err(z:List Int)(e:PE):Int:=if 15<e.size 15 then 2 else e.parts z
def PE.none_(e:PE):Bool:=decide (e.kind=0) && decide (e.n=0) && decide (e.args.length=0)
def b1V(z:List Int):List PE→Int
 | []=>0
 | x::xs=>orE (x.err z) (b1V z xs)
def PC.own(ps z:List Int)(calls:Int)(x:PC):Int:=
 if x.kind<1∨7<x.kind then 7
 else if(x.kind≤4∧¬(0≤x.var∧x.var<z.length))∨(x.kind=3∧¬(0≤x.fn∧x.fn<calls)) then 5
 else if x.kind≤4∧(0<z.getD x.var.toNat 0∧x.kind≠2∨z.getD x.var.toNat 0=0∧x.kind=2) then 7
 else if(4<x.kind∧x.var≠0)∨(x.kind≠3∧x.fn≠0)∨(x.kind≠2∧x.index.none_=false)∨((x.kind=3∨x.kind=4)∧x.expr.none_=false)∨(x.kind≠3∧0<x.args.length)∨(x.kind<6∧0<x.thn.length)∨(x.kind≠6∧0<x.els.length) then 1
 else if x.kind=3∧(x.args.length:Int)≠ps.getD x.fn.toNat 0 then 1
 else orE (if x.kind=2 then x.index.err z else 0) (orE (if x.kind≠3∧x.kind≠4 then x.expr.err z else 0) (b1V z x.args))
mutual
def PC.err(ps z:List Int)(calls:Int):PC→Int
 | .mk k v f i e args thn els=>orE (PC.own ps z calls (.mk k v f i e args thn els)) (orE (b1U ps z calls thn) (b1U ps z calls els))
def b1U(ps z:List Int)(calls:Int):List PC→Int
 | []=>0
 | x::xs=>orE (x.err ps z calls) (b1U ps z calls xs)
end
mutual
def PC.fine:PC→Int→Bool
 | .mk _ _ _ _ _ _ thn els,d=>b1P thn (d+1) && b1P els (d+1)
def b1P:List PC→Int→Bool
 | [],_=>true
 | x::xs,d=>decide (d≤5) && x.fine d && b1P xs d
end
mutual
def PC.cnt:PC→Nat
 | .mk _ _ _ _ _ _ thn els=>1+b0r thn+b0r els
def b0r:List PC→Nat
 | []=>0
 | x::xs=>x.cnt+b0r xs
end
def PF.err(ps:List Int)(calls:Int)(main:Bool)(f:PF):Int:=
 if f.params<0∨(f.sizes.length:Int)<f.params then 3
 else if 3<f.params∨6<(f.sizes.length:Int)-f.params then 2
 else if f.sizes.all (fun n=>decide (0≤n∧n≤8))=false then 3
 else if(f.sizes.take f.params.toNat).all (fun n=>decide (n=0))=false∨(main=true∧0<f.params) then 1
 else orE (b1U ps f.sizes calls f.cmds) (if main then(if f.result.none_ then 0 else 1) else f.result.err f.sizes)
def b2P(ps:List Int):Nat→List PF→Int
 | _,[]=>0
 | i,[f]=>f.err ps i true
 | i,f::g::l=>orE (f.err ps (i+1:Nat) false) (b2P ps (i+1) (g::l))
def b5X(l:List PF):Int:=
 if l.length=0 then 1
 else if 6<l.length∨l.all (fun f=>b1P f.cmds 1)=false∨40<(l.map fun f=>b0r f.cmds).sum then 2
 else b2P (l.map PF.params) 0 l
def wrap(n:Int):Int:=(n+2147483648) % 4294967296-2147483648
def Num(n:Int):Prop:=-2147483648≤n∧n≤2147483647
instance (n:Int):Decidable (Num n):=inferInstanceAs (Decidable (_∧_))
theorem c3e(n:Int):Num (wrap n):=by unfold wrap Num;omega
def opV(k a b:Int):Int×Int:=
 if k=4 then(wrap (a+b),0) else if k=5 then(wrap (a-b),0) else if k=6 then(wrap (a*b),0)
 else if k=7∨k=8 then(if b=0 then(0,2) else if k=7 then(wrap (a.tdiv b),0) else(wrap (a.tmod b),0))
 else if(k=9∧a<b)∨(k=10∧a=b) then(1,0) else(0,0)
theorem c2z(k a b:Int):Num (opV k a b).1∧0≤(opV k a b).2∧(opV k a b).2≤3:=by
 unfold opV;repeat' split
 all_goals first | exact⟨c3e _,by simp,by simp⟩ | exact⟨by unfold Num;simp,by simp,by simp⟩
def b5R(vs:List (List Int))(n i:Int):Int:=(vs.getD n.toNat []).getD i.toNat 0
def b5s(k n:Int)(vs:List (List Int)):List (Int×Int)→Int×Int
 | []=>(0,0)
 | a::t=>if a.2≠0 then(0,a.2) else if k=3 then(if 0≤a.1∧a.1<(vs.getD n.toNat []).length then(b5R vs n a.1,0) else(0,3)) else
  match t with
  | []=>(0,0)
  | b::_=>if b.2≠0 then(0,b.2) else opV k a.1 b.1
theorem b2Q(k n:Int)(vs:List (List Int))(a:Int×Int)(t:List (Int×Int)):b5s k n vs (a::t)=if a.2≠0 then(0,a.2) else if k=3 then(if 0≤a.1∧a.1<(vs.getD n.toNat []).length then(b5R vs n a.1,0) else(0,3)) else
  match t with
  | []=>(0,0)
  | b::_=>if b.2≠0 then(0,b.2) else opV k a.1 b.1:=rfl
mutual
def PE.val(vs:List (List Int)):PE→Int×Int
 | .mk k n args=>if k=1 then(n,0) else if k=2 then(b5R vs n 0,0) else b5s k n vs (c4L vs args)
def c4L(vs:List (List Int)):List PE→List (Int×Int)
 | []=>[]
 | x::xs=>x.val vs::c4L vs xs
end
theorem b4W(vs:List (List Int)):∀l:List PE,c4L vs l=l.map (PE.val vs)
 | []=>by rw[c4L];rfl
 | x::xs=>by rw[c4L,b4W vs xs];rfl
def b4Z(z:List Int)(vs:List (List Int)):Prop:=vs.length=z.length∧∀i l,vs[i]? = some l→(z.getD i 0≤0→1≤l.length)∧∀n∈l,Num n
theorem b1k{a b:Int}(h:orE a b=0):a=0∧b=0:=by
 unfold orE at h;split at h
 ·exact⟨‹_›,h⟩
 ·exact⟨h,absurd h ‹_›⟩
theorem b9f{z:List Int}{xs:List PE}(h:b2h z xs=0):∀x∈xs,x.parts z=0:=by
 induction xs with
 | nil=>intro x hx;simp at hx
 | cons y ys ih =>
  rw[b2h] at h;obtain⟨h1,h2⟩:=b1k h;intro x hx;rcases List.mem_cons.1 hx with rfl | hx
  ·exact h1
  ·exact ih h2 x hx
theorem b6w{z:List Int}{e:PE}(h:b1Y z e=0):1≤e.kind∧e.kind≤10∧(e.args.length:Int)=b1B e.kind∧(e.kind=1→-9999999≤e.n∧e.n≤9999999)∧(e.kind=2∨e.kind=3→0≤e.n∧e.n<z.length)∧(e.kind=2→z.getD e.n.toNat 0≤0)∧(e.kind=3→z.getD e.n.toNat 0≠0):=by
 unfold b1Y at h
 have ha:b1B e.kind<0↔(e.kind<1∨10<e.kind):=by
  unfold b1B;repeat' split
  all_goals omega
 by_cases h1:b1B e.kind<0
 ·rw[if_pos h1] at h;omega
 rw[if_neg h1] at h;by_cases h2:(e.args.length:Int)≠b1B e.kind
 ·rw[if_pos h2] at h;omega
 rw[if_neg h2] at h;have h3:1≤e.kind∧e.kind≤10:=by omega
 refine⟨h3.1,h3.2,by omega,?_,?_,?_,?_⟩
 ·intro hk;rw[if_pos hk] at h;split at h
  ·assumption
  ·omega
 ·intro hk;rw[if_neg (by omega),if_pos (by omega)] at h;split at h
  ·assumption
  ·omega
 ·intro hk;rw[if_neg (by omega),if_pos (by omega)] at h;split at h
  ·split at h
   ·omega
   ·rename_i hh
    have:=fun hz=>hh (Or.inl ⟨hk,hz⟩);omega
  ·omega
 ·intro hk;rw[if_neg (by omega),if_pos (by omega)] at h;split at h
  ·split at h
   ·omega
   ·rename_i hh
    exact fun hz=>hh (Or.inr ⟨hk,hz⟩)
  ·omega
theorem PE.parts_ok{z:List Int}{k n:Int}{args:List PE}(h:(PE.mk k n args).parts z=0):b1Y z (.mk k n args)=0∧∀x∈args,x.parts z=0:=by
 rw[PE.parts] at h;obtain⟨h1,h2⟩:=b1k h;exact⟨h1,b9f h2⟩
theorem PE.err_ok{z:List Int}{e:PE}(h:e.err z=0):e.parts z=0:=by
 unfold PE.err at h;split at h
 ·omega
 ·exact h
theorem b4Z.cell{z:List Int}{vs:List (List Int)}(h:b4Z z vs)(n i:Int):Num (b5R vs n i):=by
 unfold b5R;rw[List.getD_eq_getElem?_getD,List.getD_eq_getElem?_getD];cases hv:vs[n.toNat]? with
 | none=>simp[Num]
 | some l =>
  simp only[Option.getD_some];cases hi:l[i.toNat]? with
  | none=>simp[Num]
  | some x=>exact(h.2 _ _ hv).2 x (List.mem_of_getElem? hi)
theorem PE.val_num{z:List Int}{vs:List (List Int)}(hf:b4Z z vs):∀e:PE,e.parts z=0→Num (e.val vs).1∧0≤(e.val vs).2∧(e.val vs).2≤3:=
 PE.ind fun k n args ih h=>by
  obtain⟨h1,h2⟩:=PE.parts_ok h;obtain⟨-,-,-,hn,-⟩:=b6w h1;have hn:k=1→-9999999≤n∧n≤9999999:=hn;rw[PE.val];split
  ·rename_i hk
   have:=hn hk;exact⟨by unfold Num;dsimp only;omega,by simp,by simp⟩
  split
  ·exact⟨hf.cell _ _,by simp,by simp⟩
  rw[b4W];cases args with
  | nil=>exact⟨by unfold b5s Num;simp,by unfold b5s;simp,by unfold b5s;simp⟩
  | cons a t =>
   obtain⟨a1,a2,a3⟩:=ih a (by simp) (h2 a (by simp));rw[List.map_cons,b2Q];by_cases h0:(a.val vs).2≠0
   ·rw[if_pos h0];exact⟨by unfold Num;simp,a2,a3⟩
   rw[if_neg h0];split
   ·split
    ·exact⟨hf.cell _ _,by simp,by simp⟩
    ·exact⟨by unfold Num;simp,by simp,by simp⟩
   ·cases t with
    | nil=>exact⟨by unfold Num;simp,by simp,by simp⟩
    | cons b t =>
     obtain⟨b1,b2,b3⟩:=ih b (by simp) (h2 b (by simp));rw[List.map_cons];dsimp only;split
     ·exact⟨by unfold Num;simp,b2,b3⟩
     ·exact c2z _ _ _
inductive Tk where
 | cmd (x:PC) (at_:Int)
 | back
structure Fr where
 num:Int
 fn:Int
 at_:Int
 vars:List (List Int)
 tasks:List Tk
structure Mc where
 inp:List Int
 steps:Int
 made:Int
 frames:List Fr
 out:List Ev
 over:Bool
def b2c(vs:List (List Int))(v i n:Int):List (List Int):=vs.set v.toNat ((vs.getD v.toNat []).set i.toNat n)
def b0c(z:List Int):List (List Int):=z.map fun n=>List.replicate (if n=0 then 1 else n.toNat) 0
def b1G:List PC→Int→List Tk
 | [],_=>[]
 | x::xs,a=>.cmd x a::b1G xs (a+x.cnt)
def b0l(ps:List PF)(f:Nat):Int:=((ps.take f).map fun g=>(b0r g.cmds:Int)).sum
def noF:PF:=⟨0,[],[],.mk 0 0 []⟩
def b2d(vs:List (List Int)):List PE→List Int×Int
 | []=>([],0)
 | x::xs=>if(x.val vs).2≠0 then([],(x.val vs).2) else((x.val vs).1::(b2d vs xs).1,(b2d vs xs).2)
namespace Mc
def num(m:Mc):Int:=match m.frames with
 | f::_=>f.num
 | []=>0
def tell(m:Mc)(k a v i n:Int):Mc:={ m with out:=m.out++[⟨k,m.num,a,v,i,n⟩] }
def end_(m:Mc)(a how:Int):Mc:={ m with out:=m.out++[⟨7,m.num,a,0,0,how⟩],over:=true }
def top(m:Mc)(g:Fr→Fr):Mc:={ m with frames:=match m.frames with
 | f::r=>g f::r
 | []=>[] }
def write(m:Mc)(a v i n:Int):Mc:=(m.top fun f=>{ f with vars:=b2c f.vars v i n }).tell 2 a v i n
def writes(a:Int):List Int→Nat→Mc→Mc
 | [],_,m=>m
 | n::l,i,m=>writes a l (i+1) (m.write a i 0 n)
def call(ps:List PF)(m:Mc)(x:PC)(f:Fr)(rest:List Fr):Mc:=
 if(b2d f.vars x.args).2≠0 then m.end_ f.at_ (b2d f.vars x.args).2
 else if rest.length=5 then m.end_ f.at_ 4
 else writes f.at_ (b2d f.vars x.args).1 0 { m.tell 5 f.at_ x.fn 0 m.made with
  made:=m.made+1,frames:=⟨m.made,x.fn,-1,b0c (ps.getD x.fn.toNat noF).sizes,b1G (ps.getD x.fn.toNat noF).cmds (b0l ps x.fn.toNat)++[.back]⟩::m.frames }
def back(ps:List PF)(m:Mc)(f:Fr):List Fr→Mc
 | []=>m.end_ (-1) 0
 | c::rest=>if((ps.getD f.fn.toNat noF).result.val f.vars).2≠0 then m.end_ f.at_ ((ps.getD f.fn.toNat noF).result.val f.vars).2
  else match c.tasks with
   | .cmd x _::ts=>write { m.tell 6 c.at_ 0 0 ((ps.getD f.fn.toNat noF).result.val f.vars).1 with frames:={ c with tasks:=ts }::rest } c.at_ x.var 0 ((ps.getD f.fn.toNat noF).result.val f.vars).1
   | _=>m
def cmd(m:Mc)(x:PC)(a:Int)(f:Fr):Mc:=
 if x.kind=4 then write (tell { m with inp:=m.inp.tail } 3 a 0 0 (m.inp.headD 0)) a x.var 0 (m.inp.headD 0)
 else if x.kind=2∧(x.index.val f.vars).2≠0 then m.end_ a (x.index.val f.vars).2
 else if(x.expr.val f.vars).2≠0 then m.end_ a (x.expr.val f.vars).2
 else if x.kind=2 then(if 0≤(x.index.val f.vars).1∧(x.index.val f.vars).1<(f.vars.getD x.var.toNat []).length then m.write a x.var (x.index.val f.vars).1 (x.expr.val f.vars).1 else m.end_ a 3)
 else if x.kind=1 then m.write a x.var 0 (x.expr.val f.vars).1
 else if x.kind=5 then m.tell 4 a 0 0 (x.expr.val f.vars).1
 else if x.kind=6 then m.top fun t=>{ t with tasks:=(if(x.expr.val f.vars).1≠0 then b1G x.thn (a+1) else b1G x.els (a+1+b0r x.thn))++t.tasks }
 else if(x.expr.val f.vars).1≠0 then m.top fun t=>{ t with tasks:=b1G x.thn (a+1)++.cmd x a::t.tasks }
 else m
def do_(ps:List PF)(fuel:Int)(m:Mc):Mc:=
 match m.frames with
 | []=>m
 | f::rest =>
  match f.tasks with
  | []=>m
  | .back::_=>m.back ps f rest
  | .cmd x a::ts =>
   if m.steps=fuel then m.end_ a 1
   else if x.kind=3 then call ps (tell { m with steps:=m.steps+1,frames:={ f with at_:=a }::rest } 1 a 0 0 0) x { f with at_:=a } rest
   else cmd (tell { m with steps:=m.steps+1,frames:={ f with at_:=a,tasks:=ts }::rest } 1 a 0 0 0) x a { f with at_:=a,tasks:=ts }
def go(ps:List PF)(fuel:Int)(m:Mc):Mc:=if m.over then m else m.do_ ps fuel
def iter(ps:List PF)(fuel:Int):Nat→Mc→Mc
 | 0,m=>m
 | n+1,m=>iter ps fuel n (m.go ps fuel)
end Mc
def Reach(ps:List PF)(fuel:Int)(m m':Mc):Prop:=∃n,m.iter ps fuel n=m'
theorem Mc.iter_add(ps:List PF)(fuel:Int):∀(a b:Nat) (m:Mc),m.iter ps fuel (a+b)=(m.iter ps fuel a).iter ps fuel b
 | 0,b,m=>by rw[Nat.zero_add];rfl
 | a+1,b,m=>by rw[Nat.add_right_comm];exact Mc.iter_add ps fuel a b _
theorem Reach.rfl_{ps:List PF}{fuel:Int}(m:Mc):Reach ps fuel m m:=⟨0,rfl⟩
theorem Reach.tr{ps:List PF}{fuel:Int}{a b c:Mc}:Reach ps fuel a b→Reach ps fuel b c→Reach ps fuel a c
 | ⟨n,h⟩,⟨k,g⟩=>⟨n+k,by rw[Mc.iter_add,h,g]⟩
theorem Reach.one{ps:List PF}{fuel:Int}{a b:Mc}(ho:a.over=false)(h:a.do_ ps fuel=b):Reach ps fuel a b:=⟨1,by show a.go ps fuel=b;unfold Mc.go;rw[ho,←h];rfl⟩
theorem Mc.iter_over{ps:List PF}{fuel:Int}{m:Mc}(h:m.over=true):∀n,m.iter ps fuel n=m
 | 0=>rfl
 | n+1=>by rw[Mc.iter,show m.go ps fuel=m by unfold Mc.go;rw[h];rfl];exact Mc.iter_over h n
theorem Reach.same{ps:List PF}{fuel:Int}{a b c:Mc}(h:Reach ps fuel a b)(g:Reach ps fuel a c)(hb:b.over=true)(hc:c.over=true):b=c:=by
 obtain⟨n,rfl⟩:=h;obtain⟨k,rfl⟩:=g;rcases Nat.le_total n k with hl | hl
 ·obtain⟨d,rfl⟩:=Nat.exists_eq_add_of_le hl;rw[Mc.iter_add,Mc.iter_over hb]
 ·obtain⟨d,rfl⟩:=Nat.exists_eq_add_of_le hl;rw[Mc.iter_add,Mc.iter_over hc]
def b1R(ps:List PF)(inp:List Int):Mc:=
 {inp:=inp,steps:=0,made:=1,out:=[],over:=false,
  frames:=[⟨0,(ps.length:Int)-1,-1,b0c (ps.getD (ps.length-1) noF).sizes,b1G (ps.getD (ps.length-1) noF).cmds (b0l ps (ps.length-1))++[.back]⟩] }
def Ran(ps:List PF)(inp:List Int)(fuel:Int)(out:List Ev):Prop:=∃m,Reach ps fuel (b1R ps inp) m∧m.over=true∧m.out=out
theorem Ran.same{ps:List PF}{inp:List Int}{fuel:Int}{a b:List Ev}:Ran ps inp fuel a→Ran ps inp fuel b→a=b
 | ⟨_,h1,h2,h3⟩,⟨_,g1,g2,g3⟩=>by rw[←h3,←g3,Reach.same h1 g1 h2 g2]
end Go.Proofs.Ytgkpplbomciehaa
