/- Programs that are right, and machines that run them: what holds at each step. Each lemma states its own conditions. -/
import Derived.Test.YtgkpplbomciehaaStt02
namespace Go.Proofs.Ytgkpplbomciehaa
open Go.RowKit
theorem c0J{z:List Int}{xs:List PE}(h:b1V z xs=0):∀x∈xs,x.err z=0:=by
 induction xs with
 | nil=>intro x hx;simp at hx
 | cons y ys ih =>
  rw[b1V] at h;obtain⟨h1,h2⟩:=b1k h;intro x hx;rcases List.mem_cons.1 hx with rfl | hx
  ·exact h1
  ·exact ih h2 x hx
structure CmdIs(pms z:List Int)(calls:Int)(x:PC):Prop where
 k1:1≤x.kind
 k7:x.kind≤7
 var:x.kind≤4→0≤x.var∧x.var<z.length
 fn:x.kind=3→0≤x.fn∧x.fn<calls
 one:x.kind≤4→x.kind≠2→z.getD x.var.toNat 0≤0
 args:x.kind=3→(x.args.length:Int)=pms.getD x.fn.toNat 0
 index:x.kind=2→x.index.err z=0
 expr:x.kind≠3→x.kind≠4→x.expr.err z=0
 all:∀y∈x.args,y.err z=0
theorem PC.own_ok{pms z:List Int}{calls:Int}{x:PC}(h:x.own pms z calls=0):CmdIs pms z calls x:=by
 unfold PC.own at h;by_cases h1:x.kind<1∨7<x.kind
 ·rw[if_pos h1] at h;omega
 rw[if_neg h1] at h;by_cases h2:(x.kind≤4∧¬(0≤x.var∧x.var<z.length))∨(x.kind=3∧¬(0≤x.fn∧x.fn<calls))
 ·rw[if_pos h2] at h;omega
 rw[if_neg h2] at h;by_cases h3:x.kind≤4∧(0<z.getD x.var.toNat 0∧x.kind≠2∨z.getD x.var.toNat 0=0∧x.kind=2)
 ·rw[if_pos h3] at h;omega
 rw[if_neg h3] at h;split at h
 ·omega
 by_cases h4:x.kind=3∧(x.args.length:Int)≠pms.getD x.fn.toNat 0
 ·rw[if_pos h4] at h;omega
 rw[if_neg h4] at h;obtain⟨h5,h6⟩:=b1k h;obtain⟨h7,h8⟩:=b1k h6;refine⟨by omega,by omega,fun hk=>?_,fun hk=>?_,fun hk hk2=>?_,fun hk=>?_,fun hk=>?_,fun hk hk2=>?_,c0J h8⟩
 ·omega
 ·omega
 ·have:¬0<z.getD x.var.toNat 0:=fun hz=>h3 ⟨hk,Or.inl ⟨hz,hk2⟩⟩;omega
 ·omega
 ·rwa [if_pos hk] at h5
 ·rwa [if_pos ⟨hk,hk2⟩] at h7
theorem PC.err_ok{pms z:List Int}{calls:Int}{x:PC}(h:x.err pms z calls=0):CmdIs pms z calls x∧b1U pms z calls x.thn=0∧b1U pms z calls x.els=0:=by
 obtain⟨k,v,f,i,e,args,thn,els⟩:=x;rw[PC.err] at h;obtain⟨h1,h2⟩:=b1k h;obtain⟨h3,h4⟩:=b1k h2;exact⟨PC.own_ok h1,h3,h4⟩
structure FnOk(ps:List PF)(i:Nat)(g:PF):Prop where
 par0:0≤g.params
 par1:g.params≤g.sizes.length
 par3:g.params≤3
 var6:(g.sizes.length:Int)-g.params≤6
 sz:∀n∈g.sizes,0≤n∧n≤8
 pz:∀n∈g.sizes.take g.params.toNat,n=0
 cmds:∃calls:Int,calls≤(ps.length:Int)-1∧b1U (ps.map PF.params) g.sizes calls g.cmds=0
 res:i+1<ps.length→g.result.err g.sizes=0
theorem PF.err_ok{pms:List Int}{calls:Int}{main:Bool}{g:PF}(h:g.err pms calls main=0) :
  0≤g.params∧g.params≤g.sizes.length∧g.params≤3∧(g.sizes.length:Int)-g.params≤6∧(∀n∈g.sizes,0≤n∧n≤8)∧(∀n∈g.sizes.take g.params.toNat,n=0)∧b1U pms g.sizes calls g.cmds=0∧(main=false→g.result.err g.sizes=0):=by
 unfold PF.err at h;by_cases h1:g.params<0∨(g.sizes.length:Int)<g.params
 ·rw[if_pos h1] at h;omega
 rw[if_neg h1] at h;by_cases h2:3<g.params∨6<(g.sizes.length:Int)-g.params
 ·rw[if_pos h2] at h;omega
 rw[if_neg h2] at h;by_cases h3:g.sizes.all (fun n=>decide (0≤n∧n≤8))=false
 ·rw[if_pos h3] at h;omega
 rw[if_neg h3] at h;by_cases h4:(g.sizes.take g.params.toNat).all (fun n=>decide (n=0))=false∨(main=true∧0<g.params)
 ·rw[if_pos h4] at h;omega
 rw[if_neg h4] at h;obtain⟨h5,h6⟩:=b1k h;refine⟨by omega,by omega,by omega,by omega,?_,?_,h5,?_⟩
 ·have:=Bool.not_eq_false _ |>.mp h3;rw[List.all_eq_true] at this;exact fun n hn=>of_decide_eq_true (this n hn)
 ·have:(g.sizes.take g.params.toNat).all (fun n=>decide (n=0))=true:=by
   rcases Bool.eq_false_or_eq_true ((g.sizes.take g.params.toNat).all (fun n=>decide (n=0))) with h | h
   ·exact h
   ·exact absurd (Or.inl h) h4
  rw[List.all_eq_true] at this;exact fun n hn=>of_decide_eq_true (this n hn)
 ·intro hm;rw[hm] at h6
  simpa using h6
theorem b8j{pms:List Int}:∀{l:List PF} {j:Nat},b2P pms j l=0→∀i g,l[i]? = some g→(i+1=l.length∧g.err pms ((j+i:Nat):Int) true=0)∨(i+1<l.length∧g.err pms ((j+i+1:Nat):Int) false=0)
 | [],_,_,i,g,hg=>by simp at hg
 | [f],j,h,i,g,hg=>by
  rw[b2P] at h;cases i with
  | zero=>simp at hg;subst hg;exact Or.inl ⟨rfl,h⟩
  | succ i=>simp at hg
 | f::f2::l,j,h,i,g,hg=>by
  rw[b2P] at h;obtain⟨h1,h2⟩:=b1k h;cases i with
  | zero=>simp at hg;subst hg;exact Or.inr ⟨by simp,h1⟩
  | succ i =>
   rcases b8j h2 i g (by simpa using hg) with⟨h3,h4⟩ | ⟨h3,h4⟩
   ·refine Or.inl ⟨by simp at h3 ⊢;omega,?_⟩;rw[show j+(i+1)=j+1+i by omega];exact h4
   ·refine Or.inr ⟨by simp at h3 ⊢;omega,?_⟩;rw[show j+(i+1)+1=j+1+i+1 by omega];exact h4
structure Prog(ps:List PF):Prop where
 pos:0<ps.length
 six:ps.length≤6
 many:(ps.map fun f=>b0r f.cmds).sum≤40
 fine:∀g∈ps,b1P g.cmds 1=true
 fns:∀i g,ps[i]? = some g→FnOk ps i g
theorem b6h{ps:List PF}(h:b5X ps=0):Prog ps:=by
 unfold b5X at h;by_cases h1:ps.length=0
 ·rw[if_pos h1] at h;omega
 rw[if_neg h1] at h;by_cases h2:6<ps.length∨ps.all (fun f=>b1P f.cmds 1)=false∨40<(ps.map fun f=>b0r f.cmds).sum
 ·rw[if_pos h2] at h;omega
 rw[if_neg h2] at h;refine⟨by omega,by omega,by omega,?_,?_⟩
 ·have:ps.all (fun f=>b1P f.cmds 1)=true:=by
   rcases Bool.eq_false_or_eq_true (ps.all (fun f=>b1P f.cmds 1)) with h | h
   ·exact h
   ·exact absurd (Or.inr (Or.inl h)) h2
  rw[List.all_eq_true] at this;exact this
 ·intro i g hg;rcases b8j h i g hg with⟨h3,h4⟩ | ⟨h3,h4⟩
  ·obtain⟨a,b,c,d,e,f,k,-⟩:=PF.err_ok h4;exact⟨a,b,c,d,e,f,⟨_,by omega,k⟩,fun h=>by omega⟩
  ·obtain⟨a,b,c,d,e,f,k,l⟩:=PF.err_ok h4;exact⟨a,b,c,d,e,f,⟨_,by omega,k⟩,fun _=>l rfl⟩
theorem PC.fine_eq(x:PC)(d:Int):x.fine d=(b1P x.thn (d+1) && b1P x.els (d+1)):=by
 obtain⟨k,v,g,i,e,args,thn,els⟩:=x;rw[PC.fine];rfl
theorem b3E(x:PC)(l:List PC)(d:Int):b1P (x::l) d=(decide (d≤5) && x.fine d && b1P l d):=by rw[b1P]
theorem b3l{x:PC}{l:List PC}{d:Int}(h:b1P (x::l) d=true):d≤5∧x.fine d=true∧b1P l d=true:=by
 rw[b3E,Bool.and_eq_true,Bool.and_eq_true] at h;exact⟨of_decide_eq_true h.1.1,h.1.2,h.2⟩
theorem PC.fine_in{x:PC}{d:Int}(h:x.fine d=true):b1P x.thn (d+1)=true∧b1P x.els (d+1)=true:=by
 rw[PC.fine_eq,Bool.and_eq_true] at h;exact h
theorem b4M{e:Int}(he:e≤1):∀{l:List PC},(∀x∈l,∀d,x.fine d=true→x.fine (d-e)=true)→∀d,b1P l d=true→0≤e→b1P l (d-e)=true
 | [],_,_,_,_=>by rw[b1P]
 | x::xs,h,d,hf,h0=>by
  obtain⟨f1,f2,f3⟩:=b3l hf;rw[b3E,h x (by simp) d f2,b4M he (fun y hy=>h y (by simp[hy])) d f3 h0,decide_eq_true (by omega)];rfl
theorem PC.fine_less:∀x:PC,∀d,x.fine d=true→x.fine (d-1)=true:=
 PC.ind fun k v g i e args thn els h1 h2 d h=>by
  rw[PC.fine_eq,Bool.and_eq_true] at h ⊢;obtain⟨a,b⟩:=h;have ha:=b4M (e:=1) (by decide) (l:=thn) h1 (d+1) a (by decide);have hb:=b4M (e:=1) (by decide) (l:=els) h2 (d+1) b (by decide);rw[show d-1+1=d+1-1 by omega];exact⟨ha,hb⟩
theorem b6N{l:List PC}{d:Int}(h:b1P l d=true):b1P l (d-1)=true:=b4M (e:=1) (by decide) (fun x _=>PC.fine_less x) d h (by decide)
def b7J(ps:List PF)(z:List Int)(x:PC)(a:Int):Prop:=0≤a∧a+x.cnt≤40∧x.fine 1=true∧∃calls:Int,calls≤(ps.length:Int)-1∧x.err (ps.map PF.params) z calls=0
def b6F(ps:List PF)(z:List Int)(l:List PC)(a:Int):Prop:=0≤a∧a+b0r l≤40∧b1P l 1=true∧∃calls:Int,calls≤(ps.length:Int)-1∧b1U (ps.map PF.params) z calls l=0
def c2e(ps:List PF)(z:List Int):List Tk→Prop
 | []=>False
 | .back::ts=>ts=[]
 | .cmd x a::ts=>b7J ps z x a∧c2e ps z ts
theorem b6F.head{ps:List PF}{z:List Int}{x:PC}{l:List PC}{a:Int}(h:b6F ps z (x::l) a):b7J ps z x a∧b6F ps z l (a+x.cnt):=by
 obtain⟨h1,h2,hf,c,h3,h4⟩:=h;rw[b0r] at h2;rw[b1U] at h4;obtain⟨h5,h6⟩:=b1k h4;obtain⟨-,f1,f2⟩:=b3l hf;exact⟨⟨h1,by omega,f1,c,h3,h5⟩,by omega,by omega,f2,c,h3,h6⟩
theorem b6F.push{ps:List PF}{z:List Int}{ts:List Tk}(ht:c2e ps z ts):∀{l:List PC} {a:Int},b6F ps z l a→c2e ps z (b1G l a++ts)
 | [],_,_=>ht
 | _x::_l,_a,h=>⟨h.head.1,b6F.push ht h.head.2⟩
theorem PC.cnt_eq(x:PC):x.cnt=1+b0r x.thn+b0r x.els:=by
 obtain⟨k,v,f,i,e,args,thn,els⟩:=x;rw[PC.cnt];rfl
theorem b7J.is{ps:List PF}{z:List Int}{x:PC}{a:Int}(h:b7J ps z x a):∃calls:Int,calls≤(ps.length:Int)-1∧CmdIs (ps.map PF.params) z calls x:=by
 obtain⟨-,-,-,c,h1,h2⟩:=h;exact⟨c,h1,(PC.err_ok h2).1⟩
theorem b7J.thn{ps:List PF}{z:List Int}{x:PC}{a:Int}(h:b7J ps z x a):b6F ps z x.thn (a+1):=by
 obtain⟨h1,h2,hf,c,h3,h4⟩:=h;rw[PC.cnt_eq] at h2;exact⟨by omega,by omega,b6N (PC.fine_in hf).1,c,h3,(PC.err_ok h4).2.1⟩
theorem b7J.els{ps:List PF}{z:List Int}{x:PC}{a:Int}(h:b7J ps z x a):b6F ps z x.els (a+1+b0r x.thn):=by
 obtain⟨h1,h2,hf,c,h3,h4⟩:=h;rw[PC.cnt_eq] at h2;exact⟨by omega,by omega,b6N (PC.fine_in hf).2,c,h3,(PC.err_ok h4).2.2⟩
theorem b4N(ps:List PF):∀(i:Nat) (g:PF),ps[i]? = some g→0≤b0l ps i∧b0l ps i+b0r g.cmds≤((ps.map fun f=>b0r f.cmds).sum:Nat):=by
 induction ps with
 | nil=>intro i g h;simp at h
 | cons f ps ih =>
  intro i g h;cases i with
  | zero=>simp at h;subst h;unfold b0l;simp;omega
  | succ i =>
   have:=ih i g (by simpa using h);unfold b0l at this ⊢;simp only[List.take_succ_cons,List.map_cons,List.sum_cons];omega
theorem Prog.get{ps:List PF}{i:Int}(h0:0≤i)(h:i<ps.length):ps[i.toNat]? = some (ps.getD i.toNat noF):=by
 rw[List.getD_eq_getElem?_getD,List.getElem?_eq_getElem (by omega)];rfl
theorem Prog.cmds{ps:List PF}(hp:Prog ps){i:Nat}{g:PF}(h:ps[i]? = some g):b6F ps g.sizes g.cmds (b0l ps i):=by
 obtain⟨h1,h2⟩:=b4N ps i g h;have:=hp.many;exact⟨h1,by omega,hp.fine g (List.mem_of_getElem? h),(hp.fns i g h).cmds⟩
theorem b4Z.set{z:List Int}{vs:List (List Int)}(h:b4Z z vs)(v i:Int){n:Int}(hn:Num n):b4Z z (b2c vs v i n):=by
 unfold b2c;refine⟨by rw[List.length_set];exact h.1,fun j l hj=>?_⟩;rw[List.getElem?_set] at hj;split at hj
 ·rename_i hv
  split at hj
  ·rename_i hlt
   obtain rfl:=Option.some.inj hj;have hx:vs[v.toNat]? = some (vs.getD v.toNat []):=by rw[List.getD_eq_getElem?_getD,List.getElem?_eq_getElem hlt];rfl
   obtain⟨h1,h2⟩:=h.2 _ _ hx;refine⟨fun hz=>by rw[List.length_set];exact h1 (by rw[hv];exact hz),fun y hy=>?_⟩;rcases List.mem_or_eq_of_mem_set hy with hy | rfl
   ·exact h2 y hy
   ·exact hn
  ·cases hj
 ·exact h.2 j l hj
theorem b4Z.zero{z:List Int}(h:∀n∈z,0≤n∧n≤8):b4Z z (b0c z):=by
 unfold b0c;refine⟨by rw[List.length_map],fun i l hl=>?_⟩;rw[List.getElem?_map] at hl;cases hz:z[i]? with
 | none=>rw[hz] at hl;cases hl
 | some n =>
  rw[hz] at hl;obtain rfl:=Option.some.inj hl;have:=h n (List.mem_of_getElem? hz);refine⟨fun h0=>?_,fun y hy=>?_⟩
  ·rw[List.length_replicate];rw[List.getD_eq_getElem?_getD,hz,Option.getD_some] at h0;split<;>omega
  ·obtain⟨-,rfl⟩:=List.mem_replicate.1 hy;unfold Num;decide
theorem b4Z.len{z:List Int}{vs:List (List Int)}(h:b4Z z vs){v:Int}(h0:0≤v)(hv:v<z.length)(hz:z.getD v.toNat 0≤0):0<(vs.getD v.toNat []).length:=by
 have hlt:v.toNat<vs.length:=by rw[h.1];omega
 have hx:vs[v.toNat]? = some (vs.getD v.toNat []):=by rw[List.getD_eq_getElem?_getD,List.getElem?_eq_getElem hlt];rfl
 exact(h.2 _ _ hx).1 hz
def c4k(ps:List PF)(f:Fr):Prop:=∃g,0≤f.fn∧ps[f.fn.toNat]? = some g∧b4Z g.sizes f.vars∧c2e ps g.sizes f.tasks∧-1≤f.at_∧f.at_≤40
def c2O(ps:List PF):List Fr→Prop
 | []=>True
 | c::r=>c4k ps c∧(∃x a ts,c.tasks=.cmd x a::ts∧x.kind=3)∧(r≠[]→c.fn+1<ps.length)∧c2O ps r
structure Good(ps:List PF)(fuel:Int)(m:Mc)(f:Fr)(rest:List Fr):Prop where
 fr:m.frames=f::rest
 ok:c4k ps f
 fn:rest≠[]→f.fn+1<ps.length
 rst:c2O ps rest
 five:rest.length≤5
 s0:0≤m.steps
 s1:m.steps≤fuel
 m0:1≤m.made
 m1:m.made≤m.steps+1
 inp:∀n∈m.inp,Num n
 len:(m.out.length:Int)+2*rest.length≤7*m.steps
 on:m.over=false
theorem b5O{vs:List (List Int)}:∀{l:List PE},(b2d vs l).2=0→(b2d vs l).1.length=l.length
 | [],_=>rfl
 | x::xs,h=>by
  rw[b2d] at h ⊢;split at h
  ·rename_i h1;exact absurd h h1
  ·rename_i h1
   rw[if_neg h1];simp[b5O (l:=xs) h]
theorem b4H{z:List Int}{vs:List (List Int)}(hf:b4Z z vs):∀{l:List PE},(∀y∈l,y.err z=0)→∀n∈(b2d vs l).1,Num n
 | [],_,n,hn=>by simp[b2d] at hn
 | x::xs,h,n,hn=>by
  rw[b2d] at hn;split at hn
  ·simp at hn
  ·rcases List.mem_cons.1 hn with rfl | hn
   ·exact(PE.val_num hf x (PE.err_ok (h x (by simp)))).1
   ·exact b4H hf (fun y hy=>h y (by simp[hy])) n hn
def b2F:List (List Int)→List Int→Nat→List (List Int)
 | vs,[],_=>vs
 | vs,n::l,i=>b2F (b2c vs i 0 n) l (i+1)
def b8Z(num a:Int):List Int→Nat→List Ev
 | [],_=>[]
 | n::l,i=>⟨2,num,a,i,0,n⟩::b8Z num a l (i+1)
theorem b4X(num a:Int):∀(l:List Int) (i:Nat),(b8Z num a l i).length=l.length
 | [],_=>rfl
 | n::l,i=>by rw[b8Z,List.length_cons,b4X num a l (i+1),List.length_cons]
theorem Mc.writes_eq(a:Int):∀(l:List Int) (i:Nat) (m:Mc) (f:Fr) (rest:List Fr),m.frames=f::rest →
  writes a l i m={ m with frames:={ f with vars:=b2F f.vars l i }::rest,out:=m.out++b8Z f.num a l i }
 | [],i,m,f,rest,h=>by
  rw[writes,b8Z,b2F,List.append_nil,←h]
 | n::l,i,m,f,rest,h=>by
  have h1:(m.write a i 0 n).frames={ f with vars:=b2c f.vars i 0 n }::rest:=by unfold write top tell;simp only[h]
  rw[writes,writes_eq a l (i+1) _ _ rest h1];unfold write top tell num;simp only[h,b8Z,b2F,List.append_assoc,List.singleton_append]
theorem b4Z.all{z:List Int}{l:List Int}(hn:∀n∈l,Num n):∀{vs:List (List Int)} {i:Nat},b4Z z vs→b4Z z (b2F vs l i):=by
 induction l with
 | nil=>exact fun h=>h
 | cons n l ih =>
  intro vs i h;exact ih (fun y hy=>hn y (by simp[hy])) (h.set i 0 (hn n (by simp)))
theorem c2e.one(ps:List PF)(z:List Int):c2e ps z [.back]:=rfl
theorem Mc.do_back{ps:List PF}{fuel:Int}{m:Mc}{f:Fr}{rest:List Fr}{ts:List Tk}(h:m.frames=f::rest)(ht:f.tasks=.back::ts):m.do_ ps fuel=m.back ps f rest:=by
 unfold Mc.do_;rw[h];dsimp only;rw[ht]
theorem Mc.do_cmd{ps:List PF}{fuel:Int}{m:Mc}{f:Fr}{rest:List Fr}{x:PC}{a:Int}{ts:List Tk}(h:m.frames=f::rest)(ht:f.tasks=.cmd x a::ts):m.do_ ps fuel=if m.steps=fuel then m.end_ a 1
   else if x.kind=3 then call ps (tell { m with steps:=m.steps+1,frames:={ f with at_:=a }::rest } 1 a 0 0 0) x { f with at_:=a } rest
   else cmd (tell { m with steps:=m.steps+1,frames:={ f with at_:=a,tasks:=ts }::rest } 1 a 0 0 0) x a { f with at_:=a,tasks:=ts }:=by
 unfold Mc.do_;rw[h];dsimp only;rw[ht]
theorem Mc.back_one{ps:List PF}{m:Mc}{f c:Fr}{rest:List Fr}{x:PC}{a:Int}{ts:List Tk}(h:c.tasks=.cmd x a::ts):m.back ps f (c::rest)=if((ps.getD f.fn.toNat noF).result.val f.vars).2≠0 then m.end_ f.at_ ((ps.getD f.fn.toNat noF).result.val f.vars).2
  else write { m.tell 6 c.at_ 0 0 ((ps.getD f.fn.toNat noF).result.val f.vars).1 with frames:={ c with tasks:=ts }::rest } c.at_ x.var 0 ((ps.getD f.fn.toNat noF).result.val f.vars).1:=by
 unfold Mc.back;dsimp only;rw[h]
theorem Prog.args{ps:List PF}(hp:Prog ps){x:PC}(h0:0≤x.fn)(h:x.fn+1<ps.length)(hl:(x.args.length:Int)=(ps.map PF.params).getD x.fn.toNat 0):x.args.length≤3∧(x.args.length:Int)=(ps.getD x.fn.toNat noF).params:=by
 have hg:=Prog.get h0 (show x.fn<ps.length by omega);have h1:=(hp.fns _ _ hg).par3;rw[List.getD_eq_getElem?_getD,List.getElem?_map,hg] at hl;simp only[Option.map_some,Option.getD_some] at hl;omega
theorem Good.step{ps:List PF}{fuel:Int}{m:Mc}{f:Fr}{rest:List Fr}(hp:Prog ps)(h:Good ps fuel m f rest) :
  (m.do_ ps fuel).out.length≤m.out.length+7∧((m.do_ ps fuel).over=true∨∃f' rest',Good ps fuel (m.do_ ps fuel) f' rest'∧3*m.steps-rest.length<3*(m.do_ ps fuel).steps-rest'.length):=by
 obtain⟨hfr,⟨g,hf0,hg,hfit,hts,ha1,ha2⟩,hfn,hrst,h5,s0,s1,m0,m1,hin,hlen,hon⟩:=h;cases htk:f.tasks with
 | nil=>rw[htk] at hts;exact hts.elim
 | cons t ts =>
  rw[htk] at hts;cases t with
  | back =>
   rw[Mc.do_back hfr htk];cases rest with
   | nil=>exact⟨by unfold Mc.back Mc.end_;simp,Or.inl rfl⟩
   | cons c rest =>
    obtain⟨⟨gc,hc0,hgc,hcfit,hcts,hca1,hca2⟩,⟨x,a,ts2,hctk,hx3⟩,hcfn,hrr⟩:=hrst;rw[Mc.back_one hctk];split
    ·exact⟨by unfold Mc.end_;simp,Or.inl rfl⟩
    ·rename_i hval
     rw[hctk] at hcts;have hr:=(hp.fns _ _ hg).res (by have:=hfn (by simp);omega);have hgd:ps.getD f.fn.toNat noF=g:=by rw[List.getD_eq_getElem?_getD,hg];rfl
     rw[hgd];have hn:=(PE.val_num hfit g.result (PE.err_ok hr)).1;refine⟨by unfold Mc.write Mc.top Mc.tell;simp,Or.inr ⟨{ c with tasks:=ts2,vars:=b2c c.vars x.var 0 (g.result.val f.vars).1 },rest,⟨rfl,⟨gc,hc0,hgc,hcfit.set _ _ hn,hcts.2,hca1,hca2⟩,hcfn,hrr,by simp at h5;omega,s0,s1,m0,m1,hin,?_,hon⟩,?_⟩⟩
     ·unfold Mc.write Mc.top Mc.tell;simp at hlen ⊢;omega
     ·unfold Mc.write Mc.top Mc.tell;simp only[List.length_cons];omega
  | cmd x a =>
   rw[Mc.do_cmd hfr htk];obtain⟨hx,hts'⟩:=hts;obtain⟨calls,hcl,hci⟩:=hx.is;obtain⟨hx0,hx40,-⟩:=id hx;by_cases hst:m.steps=fuel
   ·rw[if_pos hst];exact⟨by unfold Mc.end_;simp,Or.inl rfl⟩
   rw[if_neg hst];by_cases h3:x.kind=3
   ·rw[if_pos h3];unfold Mc.call;have hnum:=b4H hfit hci.all;have hfn3:=hci.fn h3;obtain⟨hl3,-⟩:=hp.args hfn3.1 (by omega) (hci.args h3);dsimp only;split
    ·exact⟨by unfold Mc.end_ Mc.tell;simp,Or.inl rfl⟩
    split
    ·exact⟨by unfold Mc.end_ Mc.tell;simp,Or.inl rfl⟩
    rename_i hv0 hr5
    have hll:=b5O (vs:=f.vars) (l:=x.args) (by omega);have hgg:=Prog.get hfn3.1 (show x.fn<ps.length by omega);rw[Mc.writes_eq _ _ _ _ _ _ rfl];have hfz:=b4Z.zero (hp.fns _ _ hgg).sz;refine⟨by unfold Mc.tell;simp[b4X];omega,Or.inr ⟨_,{ f with at_:=a }::rest,⟨rfl,⟨_,hfn3.1,hgg,b4Z.all hnum hfz,b6F.push (c2e.one _ _) (hp.cmds hgg),by simp,by simp⟩,fun _=>by dsimp only;omega,⟨⟨g,hf0,hg,hfit,by rw[htk];exact⟨hx,hts'⟩,by dsimp only;omega,by dsimp only;omega⟩,⟨x,a,ts,htk,h3⟩,hfn,hrst⟩,?_,?_,?_,?_,?_,hin,?_,hon⟩,?_⟩⟩
    ·simp;omega
    ·unfold Mc.tell;dsimp only;omega
    ·unfold Mc.tell;dsimp only;omega
    ·unfold Mc.tell;dsimp only;omega
    ·unfold Mc.tell;dsimp only;omega
    ·unfold Mc.tell;simp[b4X];omega
    ·unfold Mc.tell;simp;omega
   ·rw[if_neg h3];have haa:a≤40:=by omega
    have hmk:∀(m':Mc) (f':Fr),m'.frames=f'::rest→f'.fn=f.fn→f'.at_=a→b4Z g.sizes f'.vars→c2e ps g.sizes f'.tasks→m'.steps=m.steps+1→m'.made=m.made→(∀n∈m'.inp,Num n)→m'.out.length≤m.out.length+7→m'.over=false →
      m'.out.length≤m.out.length+7∧(m'.over=true∨∃f' rest',Good ps fuel m' f' rest'∧3*m.steps-rest.length<3*m'.steps-rest'.length):=by
     intro m' f' e1 e2 e3 e4 e5 e6 e7 e8 e9 e10;refine⟨e9,Or.inr ⟨f',rest,⟨e1,⟨g,by rw[e2];exact hf0,by rw[e2];exact hg,e4,e5,by omega,by omega⟩,by rw[e2];exact hfn,hrst,h5,by omega,by omega,by omega,by omega,e8,by omega,e10⟩,by omega⟩⟩
    unfold Mc.cmd;dsimp only;by_cases h4:x.kind=4
    ·rw[if_pos h4];refine hmk _ { f with at_:=a,tasks:=ts,vars:=b2c f.vars x.var 0 (m.inp.headD 0) } rfl rfl rfl (hfit.set _ _ ?_) hts' rfl rfl (fun n hn=>hin n (List.mem_of_mem_tail hn)) ?_ hon
     ·cases hi:m.inp with
      | nil=>unfold Num;decide
      | cons n l=>exact hin n (by rw[hi];simp)
     ·unfold Mc.write Mc.top Mc.tell;simp
    rw[if_neg h4];have hne:=PE.val_num hfit x.expr (PE.err_ok (hci.expr h3 h4));by_cases hA:x.kind=2∧(x.index.val f.vars).2≠0
    ·rw[if_pos hA];exact⟨by unfold Mc.end_ Mc.tell;simp,Or.inl rfl⟩
    rw[if_neg hA];by_cases hB:(x.expr.val f.vars).2≠0
    ·rw[if_pos hB];exact⟨by unfold Mc.end_ Mc.tell;simp,Or.inl rfl⟩
    rw[if_neg hB];by_cases h2:x.kind=2
    ·rw[if_pos h2];by_cases hC:0≤(x.index.val f.vars).1∧(x.index.val f.vars).1<(f.vars.getD x.var.toNat []).length
     ·rw[if_pos hC];refine hmk _ { f with at_:=a,tasks:=ts,vars:=b2c f.vars x.var _ _ } rfl rfl rfl (hfit.set _ _ hne.1) hts' rfl rfl hin ?_ hon;unfold Mc.write Mc.top Mc.tell;simp
     ·rw[if_neg hC];exact⟨by unfold Mc.end_ Mc.tell;simp,Or.inl rfl⟩
    rw[if_neg h2];by_cases h1:x.kind=1
    ·rw[if_pos h1];refine hmk _ { f with at_:=a,tasks:=ts,vars:=b2c f.vars x.var _ _ } rfl rfl rfl (hfit.set _ _ hne.1) hts' rfl rfl hin ?_ hon;unfold Mc.write Mc.top Mc.tell;simp
    rw[if_neg h1];by_cases h5:x.kind=5
    ·rw[if_pos h5];refine hmk _ { f with at_:=a,tasks:=ts } rfl rfl rfl hfit hts' rfl rfl hin ?_ hon;unfold Mc.tell;simp
    rw[if_neg h5];by_cases h6:x.kind=6
    ·rw[if_pos h6];by_cases hn:(x.expr.val f.vars).1≠0
     ·rw[if_pos hn];refine hmk _ { f with at_:=a,tasks:=_ } rfl rfl rfl hfit (b6F.push hts' hx.thn) rfl rfl hin ?_ hon;unfold Mc.top Mc.tell;simp
     ·rw[if_neg hn];refine hmk _ { f with at_:=a,tasks:=_ } rfl rfl rfl hfit (b6F.push hts' hx.els) rfl rfl hin ?_ hon;unfold Mc.top Mc.tell;simp
    rw[if_neg h6];by_cases hn:(x.expr.val f.vars).1≠0
    ·rw[if_pos hn];refine hmk _ { f with at_:=a,tasks:=_ } rfl rfl rfl hfit (b6F.push (ts:=.cmd x a::ts) ⟨hx,hts'⟩ hx.thn) rfl rfl hin ?_ hon;unfold Mc.top Mc.tell;simp
    ·rw[if_neg hn];refine hmk _ { f with at_:=a,tasks:=ts } rfl rfl rfl hfit hts' rfl rfl hin ?_ hon;unfold Mc.tell;simp
theorem Good.start{ps:List PF}{inp:List Int}{fuel:Int}(hp:Prog ps)(hi:∀n∈inp,Num n)(hf:0≤fuel):∃f,Good ps fuel (b1R ps inp) f []:=by
 have hpos:=hp.pos
 have hg:ps[ps.length-1]? = some (ps.getD (ps.length-1) noF):=by
  rw[List.getD_eq_getElem?_getD,List.getElem?_eq_getElem (by omega)];rfl
 have he:((ps.length:Int)-1).toNat=ps.length-1:=by omega
 refine⟨_,⟨rfl,⟨_,by dsimp only;omega,by dsimp only;rw[he];exact hg,b4Z.zero (hp.fns _ _ hg).sz,b6F.push (c2e.one _ _) (hp.cmds hg),by simp,by simp⟩,fun h=>absurd rfl h,trivial,by simp,by simp[b1R],by simpa[b1R] using hf,by simp[b1R],by simp[b1R],hi,by simp[b1R],rfl⟩⟩
end Go.Proofs.Ytgkpplbomciehaa
