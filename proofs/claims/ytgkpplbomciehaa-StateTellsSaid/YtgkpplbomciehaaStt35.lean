/- Runs of a program, step by step: what is told, what is read. Each lemma states its own conditions. -/
import Derived.Test.YtgkpplbomciehaaStt34
namespace Go.Proofs.Ytgkpplbomciehaa
open Go.RowKit
def b1j(l:List Ev):Nat:=l.countP fun e=>e.kind==1
def b0i(l:List Ev):List Int:=(l.filter fun e=>e.kind==3).map Ev.value
theorem b2n(a b:List Ev):b1j (a++b)=b1j a+b1j b:=List.countP_append ..
theorem b1v(a b:List Ev):b0i (a++b)=b0i a++b0i b:=by unfold b0i;rw[List.filter_append,List.map_append]
def Mc.to_(m:Mc)(i:List Int):Mc:={ m with inp:=i }
section
variable {ps:List PF}{m:Mc}{i:List Int}
theorem Mc.to_writes(a:Int):∀(l:List Int) (k:Nat) (m:Mc),Mc.writes a l k (m.to_ i)=(Mc.writes a l k m).to_ i
 | [],_,_=>rfl
 | n::l,k,m=>by
  rw[Mc.writes,Mc.writes,←Mc.to_writes a l (k+1)];rfl
theorem Mc.to_call{x:PC}{f:Fr}{rest:List Fr}:Mc.call ps (m.to_ i) x f rest=(Mc.call ps m x f rest).to_ i:=by
 unfold Mc.call;split
 ·rfl
 split
 ·rfl
 exact Mc.to_writes f.at_ (b2d f.vars x.args).1 0 { m.tell 5 f.at_ x.fn 0 m.made with made:=m.made+1,frames:=⟨m.made,x.fn,-1,b0c (ps.getD x.fn.toNat noF).sizes,b1G (ps.getD x.fn.toNat noF).cmds (b0l ps x.fn.toNat)++[.back]⟩::m.frames }
theorem Mc.to_back{f:Fr}{rest:List Fr}:Mc.back ps (m.to_ i) f rest=(Mc.back ps m f rest).to_ i:=by
 cases rest with
 | nil=>rfl
 | cons c rest =>
  unfold Mc.back;dsimp only;split
  ·rfl
  split
  ·rfl
  ·rfl
theorem Mc.to_cmd{x:PC}{a:Int}{f:Fr}(h:x.kind≠4):Mc.cmd (m.to_ i) x a f=(Mc.cmd m x a f).to_ i:=by
 unfold Mc.cmd;rw[if_neg h,if_neg h];repeat' split
 all_goals rfl
end
theorem c2y(k a b:Int):(opV k a b).2≠1:=by
 unfold opV;repeat' split
 all_goals simp
theorem PE.val_how(vs:List (List Int)):∀e:PE,(e.val vs).2≠1:=
 PE.ind fun k n args ih=>by
  rw[PE.val];split
  ·simp
  split
  ·simp
  rw[b4W];cases args with
  | nil=>simp[b5s]
  | cons a t =>
   have h1:=ih a (by simp);rw[List.map_cons,b2Q];split
   ·exact h1
   split
   ·split<;>simp
   ·cases t with
    | nil=>simp
    | cons b t =>
     have h2:=ih b (by simp);rw[List.map_cons];dsimp only;split
     ·exact h2
     ·exact c2y _ _ _
theorem b7O(vs:List (List Int)):∀l:List PE,(b2d vs l).2≠1
 | []=>by simp[b2d]
 | x::xs=>by
  rw[b2d];split
  ·exact PE.val_how vs x
  ·exact b7O vs xs
structure Adv(m m':Mc)(l:List Ev):Prop where
 out:m'.out=m.out++l
 on:m'.over=m.over
 k:∀e∈l,e.kind≠7
 st:m'.steps=m.steps+b1j l
 inp:m'.inp=m.inp.drop (b0i l).length
 fed:∀i x,(b0i l)[i]? = some x→x=m.inp.getD i 0
theorem Adv.rfl_(m:Mc):Adv m m []:=⟨by simp,rfl,by simp,by simp[b1j],by simp[b0i],by simp[b0i]⟩
theorem Adv.tr{a b c:Mc}{l k:List Ev}(h:Adv a b l)(g:Adv b c k):Adv a c (l++k):=by
 refine⟨by rw[g.out,h.out,List.append_assoc],g.on.trans h.on,fun e he=>?_,by rw[g.st,h.st,b2n];omega,by rw[g.inp,h.inp,b1v,List.length_append,List.drop_drop],fun i x hx=>?_⟩
 ·rcases List.mem_append.1 he with h1 | h1
  ·exact h.k e h1
  ·exact g.k e h1
 ·rw[b1v] at hx;rcases Nat.lt_or_ge i (b0i l).length with hi | hi
  ·rw[List.getElem?_append_left hi] at hx;exact h.fed i x hx
  ·rw[List.getElem?_append_right hi] at hx;rw[g.fed _ x hx,h.inp,List.getD_eq_getElem?_getD,List.getElem?_drop,List.getD_eq_getElem?_getD]
   congr 3
   omega
theorem Adv.tell{m:Mc}{k a v i n:Int}(h1:k≠1)(h3:k≠3)(h7:k≠7):Adv m (m.tell k a v i n) [⟨k,m.num,a,v,i,n⟩]:=
 ⟨rfl,rfl,by simpa using h7,by simp[b1j,Mc.tell,h1],by simp[b0i,Mc.tell,h3],by simp[b0i,h3]⟩
theorem Adv.top(m:Mc)(g:Fr→Fr):Adv m (m.top g) []:=⟨by simp[Mc.top],rfl,by simp,by simp[b1j,Mc.top],by simp[b0i,Mc.top],by simp[b0i]⟩
theorem Adv.write(m:Mc)(a v i n:Int):∃l,Adv m (m.write a v i n) l:=by
 have h:=(Adv.top m fun f=>{ f with vars:=b2c f.vars v i n }).tr (Adv.tell (m:=m.top fun f=>{ f with vars:=b2c f.vars v i n }) (k:=2) (a:=a) (v:=v) (i:=i) (n:=n) (by decide) (by decide) (by decide));exact⟨_,h⟩
theorem Adv.writes(a:Int):∀(l:List Int) (i:Nat) (m:Mc),∃k,Adv m (Mc.writes a l i m) k
 | [],_,m=>⟨_,Adv.rfl_ m⟩
 | n::l,i,m=>by
  obtain⟨k1,h1⟩:=Adv.write m a i 0 n;obtain⟨k2,h2⟩:=Adv.writes a l (i+1) (m.write a i 0 n);exact⟨_,h1.tr h2⟩
theorem Adv.step(m:Mc)(fr:List Fr)(a:Int):Adv m (Mc.tell { m with steps:=m.steps+1,frames:=fr } 1 a 0 0 0) [⟨1,Mc.num { m with steps:=m.steps+1,frames:=fr },a,0,0,0⟩]:=
 ⟨rfl,rfl,by simp,by simp[b1j,Mc.tell],by simp[b0i,Mc.tell],by simp[b0i]⟩
theorem Adv.read(m:Mc)(a:Int):Adv m (Mc.tell { m with inp:=m.inp.tail } 3 a 0 0 (m.inp.headD 0)) [⟨3,m.num,a,0,0,m.inp.headD 0⟩]:=by
 refine⟨rfl,rfl,by simp,by simp[b1j,Mc.tell],by simp[b0i,Mc.tell],fun i x hx=>?_⟩;have h:[m.inp.headD 0][i]? = some x:=hx;cases i with
 | zero =>
  obtain rfl:=Option.some.inj h;cases m.inp<;>rfl
 | succ i=>simp at h
def Ends(m m':Mc):Prop:=∃m1 l a how,Adv m m1 l∧m'=m1.end_ a how∧how≠1
def b7K(m m':Mc):Prop:=(∃l,Adv m m' l)∨Ends m m'
theorem b7K.from_{m m1 m':Mc}{l:List Ev}(h:Adv m m1 l)(g:b7K m1 m'):b7K m m':=by
 rcases g with⟨k,g⟩ | ⟨m2,k,a,how,g,h1,h2⟩
 ·exact Or.inl ⟨_,h.tr g⟩
 ·exact Or.inr ⟨m2,_,a,how,h.tr g,h1,h2⟩
theorem b7K.end_(m:Mc)(a how:Int)(h:how≠1):b7K m (m.end_ a how):=Or.inr ⟨m,_,a,how,Adv.rfl_ m,rfl,h⟩
theorem b7K.write(m:Mc)(a v i n:Int):b7K m (m.write a v i n):=Or.inl (Adv.write m a v i n)
theorem b7K.call(ps:List PF)(m:Mc)(x:PC)(f:Fr)(rest:List Fr):b7K m (Mc.call ps m x f rest):=by
 unfold Mc.call;split
 ·exact b7K.end_ _ _ _ (b7O _ _)
 split
 ·exact b7K.end_ _ _ _ (by decide)
 refine b7K.from_ (Adv.tell (k:=5) (a:=f.at_) (v:=x.fn) (i:=0) (n:=m.made) (by decide) (by decide) (by decide)) ?_;refine b7K.from_ (m1:={ m.tell 5 f.at_ x.fn 0 m.made with made:=m.made+1,frames:=⟨m.made,x.fn,-1,b0c (ps.getD x.fn.toNat noF).sizes,b1G (ps.getD x.fn.toNat noF).cmds (b0l ps x.fn.toNat)++[.back]⟩::m.frames }) (l:=[]) ?_ (Or.inl (Adv.writes _ _ _ _));exact⟨by simp[Mc.tell],rfl,by simp,by simp[b1j,Mc.tell],by simp[b0i,Mc.tell],by simp[b0i]⟩
theorem b7K.back(ps:List PF)(m:Mc)(f:Fr)(rest:List Fr):b7K m (Mc.back ps m f rest):=by
 unfold Mc.back;split
 ·exact b7K.end_ _ _ _ (by decide)
 rename_i c rest
 split
 ·exact b7K.end_ _ _ _ (PE.val_how _ _)
 split
 ·rename_i x a ts h
  refine b7K.from_ (Adv.tell (k:=6) (a:=c.at_) (v:=0) (i:=0) (n:=((ps.getD f.fn.toNat noF).result.val f.vars).1) (by decide) (by decide) (by decide)) ?_;refine b7K.from_ (m1:={ m.tell 6 c.at_ 0 0 ((ps.getD f.fn.toNat noF).result.val f.vars).1 with frames:={ c with tasks:=ts }::rest }) (l:=[]) ?_ (b7K.write _ _ _ _ _);exact⟨by simp[Mc.tell],rfl,by simp,by simp[b1j,Mc.tell],by simp[b0i,Mc.tell],by simp[b0i]⟩
 ·exact Or.inl ⟨_,Adv.rfl_ m⟩
theorem b7K.cmd(m:Mc)(x:PC)(a:Int)(f:Fr):b7K m (Mc.cmd m x a f):=by
 unfold Mc.cmd;split
 ·exact b7K.from_ (Adv.read m a) (b7K.write _ _ _ _ _)
 split
 ·exact b7K.end_ _ _ _ (PE.val_how _ _)
 split
 ·exact b7K.end_ _ _ _ (PE.val_how _ _)
 split
 ·split
  ·exact b7K.write _ _ _ _ _
  ·exact b7K.end_ _ _ _ (by decide)
 split
 ·exact b7K.write _ _ _ _ _
 split
 ·exact Or.inl ⟨_,Adv.tell (by decide) (by decide) (by decide)⟩
 split
 ·exact Or.inl ⟨_,Adv.top _ _⟩
 split
 ·exact Or.inl ⟨_,Adv.top _ _⟩
 ·exact Or.inl ⟨_,Adv.rfl_ m⟩
def Dry(fuel:Int)(m:Mc):Prop:=∃f rest x a ts,m.frames=f::rest∧f.tasks=.cmd x a::ts∧m.steps=fuel
theorem Mc.dry{ps:List PF}{fuel:Int}{m:Mc}(h:Dry fuel m):∃a,m.do_ ps fuel=m.end_ a 1:=by
 obtain⟨f,rest,x,a,ts,h1,h2,h3⟩:=h;exact⟨a,by rw[Mc.do_cmd h1 h2,if_pos h3]⟩
theorem b7K.do_(ps:List PF){fuel:Int}{m:Mc}(h:¬Dry fuel m):b7K m (m.do_ ps fuel):=by
 cases hf:m.frames with
 | nil=>unfold Mc.do_;rw[hf];exact Or.inl ⟨_,Adv.rfl_ m⟩
 | cons f rest =>
  cases ht:f.tasks with
  | nil =>
   have:m.do_ ps fuel=m:=by unfold Mc.do_;rw[hf];dsimp only;rw[ht]
   rw[this];exact Or.inl ⟨_,Adv.rfl_ m⟩
  | cons t ts =>
   cases t with
   | back=>rw[Mc.do_back hf ht];exact b7K.back _ _ _ _
   | cmd x a =>
    rw[Mc.do_cmd hf ht,if_neg fun h3=>h ⟨f,rest,x,a,ts,hf,ht,h3⟩];split
    ·exact b7K.from_ (Adv.step m _ a) (b7K.call _ _ _ _ _)
    ·exact b7K.from_ (Adv.step m _ a) (b7K.cmd _ _ _ _)
theorem Mc.do_more{ps:List PF}{F G:Int}{m:Mc}(h:¬Dry F m)(g:¬Dry G m):m.do_ ps F=m.do_ ps G:=by
 cases hf:m.frames with
 | nil=>unfold Mc.do_;rw[hf]
 | cons f rest =>
  cases ht:f.tasks with
  | nil=>unfold Mc.do_;rw[hf];dsimp only;rw[ht]
  | cons t ts =>
   cases t with
   | back=>rw[Mc.do_back hf ht,Mc.do_back hf ht]
   | cmd x a=>rw[Mc.do_cmd hf ht,Mc.do_cmd hf ht,if_neg fun h3=>h ⟨f,rest,x,a,ts,hf,ht,h3⟩,if_neg fun h3=>g ⟨f,rest,x,a,ts,hf,ht,h3⟩]
def c2d(m:Mc):Prop:=∃f rest x a ts,m.frames=f::rest∧f.tasks=.cmd x a::ts∧x.kind=4
theorem Mc.to_do{ps:List PF}{fuel:Int}{m:Mc}{i:List Int}(h:¬c2d m∨Dry fuel m):(m.to_ i).do_ ps fuel=(m.do_ ps fuel).to_ i:=by
 cases hf:m.frames with
 | nil =>
  have hf':(m.to_ i).frames=[]:=hf;unfold Mc.do_;rw[hf,hf']
 | cons f rest =>
  have hf':(m.to_ i).frames=f::rest:=hf;cases ht:f.tasks with
  | nil=>unfold Mc.do_;rw[hf,hf'];dsimp only;rw[ht]
  | cons t ts =>
   cases t with
   | back=>rw[Mc.do_back hf ht,Mc.do_back hf' ht];exact Mc.to_back
   | cmd x a =>
    rw[Mc.do_cmd hf ht,Mc.do_cmd hf' ht];by_cases hs:m.steps=fuel
    ·rw[if_pos hs,if_pos (show(m.to_ i).steps=fuel from hs)];rfl
    ·rw[if_neg hs,if_neg (show ¬(m.to_ i).steps=fuel from hs)]
     have h4:x.kind≠4:=fun h4=>by
      rcases h with h | ⟨f',rest',x',a',ts',h1,h2,h3⟩
      ·exact h ⟨f,rest,x,a,ts,hf,ht,h4⟩
      ·exact hs h3
     split
     ·exact Mc.to_call (m:=Mc.tell { m with steps:=m.steps+1,frames:={ f with at_:=a }::rest } 1 a 0 0 0)
     ·exact Mc.to_cmd (m:=Mc.tell { m with steps:=m.steps+1,frames:={ f with at_:=a,tasks:=ts }::rest } 1 a 0 0 0) h4
theorem Mc.do_rd{ps:List PF}{fuel:Int}{m:Mc}(h:c2d m)(hd:¬Dry fuel m):∃(e:Ev) (num a v:Int) (m1:Mc),e.kind=1∧∀i,(m.to_ i).do_ ps fuel=Mc.to_ { m1.write a v 0 (i.headD 0) with out:=m.out++[e,⟨3,num,a,0,0,i.headD 0⟩,⟨2,num,a,v,0,i.headD 0⟩] } i.tail:=by
 obtain⟨f,rest,x,a,ts,hf,ht,h4⟩:=h;have hs:¬m.steps=fuel:=fun h=>hd ⟨f,rest,x,a,ts,hf,ht,h⟩;refine⟨⟨1,f.num,a,0,0,0⟩,f.num,a,x.var,{ m with steps:=m.steps+1,frames:={ f with at_:=a,tasks:=ts }::rest },rfl,fun i=>?_⟩;rw[Mc.do_cmd (m:=m.to_ i) hf ht,if_neg (show ¬(m.to_ i).steps=fuel from hs),if_neg (by omega)];unfold Mc.cmd;rw[if_pos h4];unfold Mc.to_ Mc.write Mc.tell Mc.top Mc.num;simp
theorem Mc.steps_writes(a:Int):∀(l:List Int) (k:Nat) (m:Mc),(Mc.writes a l k m).steps=m.steps
 | [],_,_=>rfl
 | n::l,k,m=>by rw[Mc.writes,Mc.steps_writes a l (k+1)];rfl
theorem Mc.steps_call(ps:List PF)(m:Mc)(x:PC)(f:Fr)(rest:List Fr):(Mc.call ps m x f rest).steps=m.steps:=by
 unfold Mc.call;split
 ·rfl
 split
 ·rfl
 rw[Mc.steps_writes];rfl
theorem Mc.steps_back(ps:List PF)(m:Mc)(f:Fr)(rest:List Fr):(Mc.back ps m f rest).steps=m.steps:=by
 unfold Mc.back;repeat' split
 all_goals rfl
theorem Mc.steps_cmd(m:Mc)(x:PC)(a:Int)(f:Fr):(Mc.cmd m x a f).steps=m.steps:=by
 unfold Mc.cmd;repeat' split
 all_goals rfl
theorem Mc.steps_le{ps:List PF}{fuel:Int}{m:Mc}(h:m.steps≤fuel):(m.do_ ps fuel).steps≤fuel:=by
 cases hf:m.frames with
 | nil=>unfold Mc.do_;rw[hf];exact h
 | cons f rest =>
  cases ht:f.tasks with
  | nil=>unfold Mc.do_;rw[hf];dsimp only;rw[ht];exact h
  | cons t ts =>
   cases t with
   | back=>rw[Mc.do_back hf ht,Mc.steps_back];exact h
   | cmd x a =>
    rw[Mc.do_cmd hf ht];split
    ·exact h
    split
    ·rw[Mc.steps_call];show m.steps+1≤fuel;omega
    ·rw[Mc.steps_cmd];show m.steps+1≤fuel;omega
structure Told(inp0:List Int)(fuel:Int)(m:Mc):Prop where
 st:m.steps=b1j m.out
 inp:m.inp=inp0.drop (b0i m.out).length
 fed:∀i x,(b0i m.out)[i]? = some x→x=inp0.getD i 0
 le:m.steps≤fuel
 ends:(m.over=false∧∀e∈m.out,e.kind≠7)∨(m.over=true∧∃l e,m.out=l++[e]∧e.kind=7∧(∀x∈l,x.kind≠7)∧(e.value=1→m.steps=fuel))
theorem Told.start(ps:List PF)(inp:List Int){fuel:Int}(h:0≤fuel):Told inp fuel (b1R ps inp):=
 ⟨rfl,rfl,fun i x hx=>by simp[b1R,b0i] at hx,h,Or.inl ⟨rfl,by simp[b1R]⟩⟩
theorem Told.adv{inp0:List Int}{fuel:Int}{m m':Mc}{l:List Ev}(h:Told inp0 fuel m)(g:Adv m m' l):m'.steps=b1j m'.out∧m'.inp=inp0.drop (b0i m'.out).length∧(∀i x,(b0i m'.out)[i]? = some x→x=inp0.getD i 0):=by
 refine⟨by rw[g.st,g.out,b2n,h.st];omega,by rw[g.inp,h.inp,g.out,b1v,List.length_append,List.drop_drop],fun i x hx=>?_⟩;rw[g.out,b1v] at hx;rcases Nat.lt_or_ge i (b0i m.out).length with hi | hi
 ·rw[List.getElem?_append_left hi] at hx;exact h.fed i x hx
 ·rw[List.getElem?_append_right hi] at hx;rw[g.fed _ x hx,h.inp,List.getD_eq_getElem?_getD,List.getElem?_drop,List.getD_eq_getElem?_getD]
  congr 3
  omega
theorem Told.go{ps:List PF}{inp0:List Int}{fuel:Int}{m:Mc}(h:Told inp0 fuel m):Told inp0 fuel (m.go ps fuel)∧∃l,(m.go ps fuel).out=m.out++l:=by
 unfold Mc.go;cases ho:m.over with
 | true=>rw[if_pos rfl];exact⟨h,[],by simp⟩
 | false =>
  rw[if_neg (by decide)];have hle:=Mc.steps_le (ps:=ps) h.le
  have hk:∀e∈m.out,e.kind≠7:=by
   rcases h.ends with h1 | ⟨h1,-⟩
   ·exact h1.2
   ·rw[ho] at h1;cases h1
  by_cases hd:Dry fuel m
  ·obtain⟨a,ha⟩:=Mc.dry (ps:=ps) hd;obtain⟨-,-,-,-,-,-,-,hs⟩:=hd;rw[ha];refine⟨⟨?_,?_,fun i x hx=>?_,h.le,Or.inr ⟨rfl,m.out,_,rfl,rfl,hk,fun _=>hs⟩⟩,_,rfl⟩
   ·show m.steps=b1j (m.out++[_]);rw[b2n,h.st];simp[b1j]
   ·show m.inp=inp0.drop (b0i (m.out++[_])).length;rw[b1v,h.inp];simp[b0i]
   ·have hx':(b0i (m.out++[⟨7,m.num,a,0,0,1⟩]))[i]? = some x:=hx;rw[b1v,show b0i [⟨7,m.num,a,0,0,1⟩]=[] from rfl,List.append_nil] at hx';exact h.fed i x hx'
  ·rcases b7K.do_ ps hd with⟨l,g⟩ | ⟨m1,l,a,how,g,hm,hh⟩
   ·obtain⟨h1,h2,h3⟩:=h.adv g;refine⟨⟨h1,h2,h3,hle,Or.inl ⟨g.on.trans ho,fun e he=>?_⟩⟩,l,g.out⟩;rw[g.out] at he;rcases List.mem_append.1 he with he | he
    ·exact hk e he
    ·exact g.k e he
   ·obtain⟨h1,h2,h3⟩:=h.adv g;rw[hm] at hle ⊢;have e1:b1j (m1.out++[⟨7,m1.num,a,0,0,how⟩])=b1j m1.out:=by rw[b2n];simp[b1j]
    have e2:b0i (m1.out++[⟨7,m1.num,a,0,0,how⟩])=b0i m1.out:=by rw[b1v];simp[b0i]
    refine⟨⟨?_,?_,fun i x hx=>?_,hle,Or.inr ⟨rfl,m1.out,_,rfl,rfl,fun e he=>?_,fun hv=>absurd hv hh⟩⟩,l++[⟨7,m1.num,a,0,0,how⟩],?_⟩
    ·show m1.steps=b1j (m1.out++[_]);rw[e1,h1]
    ·show m1.inp=inp0.drop (b0i (m1.out++[_])).length;rw[e2,h2]
    ·have hx':(b0i (m1.out++[⟨7,m1.num,a,0,0,how⟩]))[i]? = some x:=hx;rw[e2] at hx';exact h3 i x hx'
    ·rw[g.out] at he;rcases List.mem_append.1 he with he | he
     ·exact hk e he
     ·exact g.k e he
    ·show m1.out++[_]=_;rw[g.out,List.append_assoc]
theorem Told.iter{ps:List PF}{inp0:List Int}{fuel:Int}:∀(n:Nat) {m:Mc},Told inp0 fuel m→Told inp0 fuel (m.iter ps fuel n)∧∃l,(m.iter ps fuel n).out=m.out++l
 | 0,m,h=>⟨h,[],by simp[Mc.iter]⟩
 | n+1,m,h=>by
  obtain⟨h1,l1,e1⟩:=h.go (ps:=ps);obtain⟨h2,l2,e2⟩:=Told.iter n h1;exact⟨h2,l1++l2,by rw[Mc.iter,e2,e1,List.append_assoc]⟩
section
variable {ps:List PF}{inp:List Int}{fuel:Int}{out:List Ev}
theorem Ran.told(h:Ran ps inp fuel out)(hf:0≤fuel):∃m,m.out=out∧m.over=true∧Told inp fuel m:=by
 obtain⟨m,⟨n,hn⟩,h1,h2⟩:=h;exact⟨m,h2,h1,by rw[←hn];exact(Told.iter n (Told.start ps inp hf)).1⟩
theorem Ran.last(h:Ran ps inp fuel out)(hf:0≤fuel):∃l e,out=l++[e]∧e.kind=7∧(∀x∈l,x.kind≠7)∧(e.value=1→(b1j out:Int)=fuel):=by
 obtain⟨m,rfl,ho,ht⟩:=h.told hf;rcases ht.ends with⟨h1,-⟩ | ⟨-,l,e,h1,h2,h3,h4⟩
 ·rw[ho] at h1;cases h1
 ·exact⟨l,e,h1,h2,h3,fun h=>by rw[←ht.st];exact h4 h⟩
theorem Ran.steps(h:Ran ps inp fuel out)(hf:0≤fuel):(b1j out:Int)≤fuel:=by
 obtain⟨m,rfl,-,ht⟩:=h.told hf;rw[←ht.st];exact ht.le
theorem Ran.fed(h:Ran ps inp fuel out)(hf:0≤fuel):∀i x,(b0i out)[i]? = some x→x=inp.getD i 0:=by
 obtain⟨m,rfl,-,ht⟩:=h.told hf;exact ht.fed
theorem Good.ends(hp:Prog ps):∀(k:Nat) (m:Mc) (f:Fr) (rest:List Fr),Good ps fuel m f rest→3*fuel+1-(3*m.steps-rest.length)≤k→∃m',Reach ps fuel m m'∧m'.over=true∧(m'.out.length:Int)≤7*fuel+7
 | 0,m,f,rest,h,hk=>by
  have:=h.s1;omega
 | k+1,m,f,rest,h,hk=>by
  obtain⟨h1,h2⟩:=h.step hp;have hl:=h.len;have hs:=h.s1;have hr:=Reach.one (ps:=ps) (fuel:=fuel) h.on rfl;rcases h2 with h2 | ⟨f',rest',h2,h3⟩
  ·exact⟨_,hr,h2,by omega⟩
  ·obtain⟨m',h4,h5,h6⟩:=Good.ends hp k _ _ _ h2 (by omega);exact⟨m',hr.tr h4,h5,h6⟩
theorem Ran.ex(hp:Prog ps)(hi:∀n∈inp,Num n)(hf:0≤fuel):∃out,Ran ps inp fuel out∧(out.length:Int)≤7*fuel+7:=by
 obtain⟨f,hg⟩:=Good.start hp hi hf;obtain⟨m,h1,h2,h3⟩:=Good.ends hp (3*fuel+1-(3*(b1R ps inp).steps-0)).toNat _ _ _ hg (by simp only[List.length_nil];omega);exact⟨m.out,⟨m,h1,h2,rfl⟩,h3⟩
theorem Ran.len(h:Ran ps inp fuel out)(hp:Prog ps)(hi:∀n∈inp,Num n)(hf:0≤fuel):(out.length:Int)≤7*fuel+7:=by
 obtain⟨out',h1,h2⟩:=Ran.ex hp hi hf;rw[Ran.same h h1];exact h2
end
theorem b6P(l:List Int)(n:Nat):(l.drop n).headD 0=l.getD n 0:=by
 rw[List.getD_eq_getElem?_getD,List.headD_eq_head?_getD,List.head?_drop]
theorem b7G{α:Type}{N:Nat}{a:List α}(h:N≤a.length)(b:List α):(a++b).take N=a.take N:=List.take_append_of_le_length h
def Sim(N:Nat)(a b:Mc):Prop:=(∃i,b=a.to_ i)∨(N≤a.out.length∧N≤b.out.length∧a.out.take N=b.out.take N)
theorem Sim.far{ps:List PF}{N:Nat}{a b:Mc}{inpA inpB:List Int}{F G:Int}(ha:Told inpA F a)(hb:Told inpB G b)(h1:N≤a.out.length)(h2:N≤b.out.length)(h3:a.out.take N=b.out.take N):Sim N (a.go ps F) (b.go ps G):=by
 obtain⟨-,la,ea⟩:=ha.go (ps:=ps);obtain⟨-,lb,eb⟩:=hb.go (ps:=ps)
 right
 rw[ea,eb,b7G h1,b7G h2];exact⟨by rw[List.length_append];omega,by rw[List.length_append];omega,h3⟩
theorem Sim.go{ps:List PF}{N:Nat}{a b:Mc}{inpA inpB:List Int}{F G:Int}{outA:List Ev}(ha:Told inpA F a)(hb:Told inpB G b)(hN:N≤outA.length)(hF:F=G∨(F≤G∧(N<outA.length∨∀l e,outA=l++[e]→e.value≠1)))
  (hin:∀i,i<(b0i (outA.take N)).length→inpA.getD i 0=inpB.getD i 0) (hout:∃l,outA=(a.go ps F).out++l) (hov:a.over=true→outA=a.out) (hov2:(a.go ps F).over=true→outA=(a.go ps F).out) (h:Sim N a b):Sim N (a.go ps F) (b.go ps G):=by
 rcases h with⟨i,rfl⟩ | ⟨h1,h2,h3⟩;rotate_left
 ·exact Sim.far ha hb h1 h2 h3
 by_cases hlt:N≤a.out.length
 ·exact Sim.far ha hb hlt hlt rfl
 have hon:a.over=false:=by
  cases ho:a.over with
  | false=>rfl
  | true =>
   rw[hov ho] at hN;exact absurd hN hlt
 have eA:a.go ps F=a.do_ ps F:=by unfold Mc.go;rw[hon];rfl
 have eB:(a.to_ i).go ps G=(a.to_ i).do_ ps G:=by unfold Mc.go;rw[show(a.to_ i).over=false from hon];rfl
 rw[eA] at hout hov2 ⊢;rw[eB];by_cases hd:Dry F a
 ·obtain⟨k,hk⟩:=Mc.dry (ps:=ps) hd;rw[hk] at hov2;have ho:=hov2 rfl;have hl:outA.length=a.out.length+1:=by rw[ho];simp[Mc.end_]
  have hFG:F=G:=by
   rcases hF with h | ⟨-,h | h⟩
   ·exact h
   ·omega
   ·exact absurd rfl (h _ _ ho)
  subst hFG;rw[Mc.to_do (Or.inr hd)];exact Or.inl ⟨i,rfl⟩
 have hd2:¬Dry G a:=fun hd2=>by
  obtain⟨f,rest,x,n,ts,h1,h2,h3⟩:=hd2;have hle:=ha.le
  have:F=G:=by
   rcases hF with h | ⟨h,-⟩
   ·exact h
   ·omega
  exact hd ⟨f,rest,x,n,ts,h1,h2,h3.trans this.symm⟩
 by_cases hr:c2d a
 rotate_left
 ·rw[Mc.to_do (Or.inl hr),Mc.do_more hd hd2];exact Or.inl ⟨i,rfl⟩
 obtain⟨e,num,at_,v,m1,hek,hdo⟩:=Mc.do_rd (ps:=ps) hr hd;have hA:a.do_ ps F=(a.to_ a.inp).do_ ps F:=rfl;have hB:(a.to_ i).do_ ps G=(a.to_ i).do_ ps F:=Mc.do_more (m:=a.to_ i) hd2 hd;rw[hA,hdo] at hout ⊢;rw[hB,hdo];by_cases hN2:N≤a.out.length+1
 ·right
  have hh:∀(r w:Ev),(a.out++[e,r,w]).take N=(a.out++[e]).take N:=fun r w=>by
   rw[show a.out++[e,r,w]=(a.out++[e])++[r,w] by simp];exact b7G (by simpa using hN2) _
  refine⟨?_,?_,?_⟩
  ·show N≤(a.out++_).length;simp;omega
  ·show N≤(a.out++_).length;simp;omega
  ·show(a.out++[e,_,_]).take N=(a.out++[e,_,_]).take N;rw[hh,hh]
 ·have hv:a.inp.headD 0=i.headD 0:=by
   rw[ha.inp,b6P];have hi:i=inpB.drop (b0i a.out).length:=hb.inp;rw[hi,b6P];refine hin _ ?_;obtain⟨l,hl⟩:=hout;have hl':outA=a.out++[e,⟨3,num,at_,0,0,a.inp.headD 0⟩]++(⟨2,num,at_,v,0,a.inp.headD 0⟩::l):=by rw[hl];simp[Mc.to_]
   obtain⟨d,hd⟩:∃d,N=(a.out++[e,⟨3,num,at_,0,0,a.inp.headD 0⟩]).length+d:=⟨N-(a.out.length+2),by simp;omega⟩;rw[hl',hd,List.take_length_add_append,b1v,b1v,List.length_append,List.length_append];have:(b0i [e,⟨3,num,at_,0,0,a.inp.headD 0⟩]).length=1:=by simp[b0i,hek]
   omega
  rw[hv];exact Or.inl ⟨i.tail,rfl⟩
theorem Sim.iter{ps:List PF}{N:Nat}{inpA inpB:List Int}{F G:Int}{outA:List Ev}(hF0:0≤F)(hG0:0≤G)(hA:Ran ps inpA F outA)(hN:N≤outA.length)(hF:F=G∨(F≤G∧(N<outA.length∨∀l e,outA=l++[e]→e.value≠1)))
  (hin:∀i,i<(b0i (outA.take N)).length→inpA.getD i 0=inpB.getD i 0):∀n,Sim N ((b1R ps inpA).iter ps F n) ((b1R ps inpB).iter ps G n)
 | 0=>Or.inl ⟨inpB,rfl⟩
 | n+1=>by
  have ih:=Sim.iter hF0 hG0 hA hN hF hin n;have tA:=(Told.iter (ps:=ps) n (Told.start ps inpA hF0)).1;have tB:=(Told.iter (ps:=ps) n (Told.start ps inpB hG0)).1;have sA:(b1R ps inpA).iter ps F (n+1)=((b1R ps inpA).iter ps F n).go ps F:=by rw[Mc.iter_add];rfl
  have sB:(b1R ps inpB).iter ps G (n+1)=((b1R ps inpB).iter ps G n).go ps G:=by rw[Mc.iter_add];rfl
  obtain⟨mA,⟨kA,hk⟩,hoA,rfl⟩:=hA
  have hfin:∀k,((b1R ps inpA).iter ps F k).over=true→mA.out=((b1R ps inpA).iter ps F k).out:=fun k hk2=>by
   rw[Reach.same ⟨k,rfl⟩ ⟨kA,hk⟩ hk2 hoA]
  rw[sA,sB];refine Sim.go tA tB hN hF hin ?_ (hfin n) (by rw[←sA];exact hfin (n+1)) ih;obtain⟨-,l,hl⟩:=Told.iter (ps:=ps) (fuel:=F) kA (tA.go (ps:=ps)).1;refine⟨l,?_⟩;rw[←hl,←sA,←Mc.iter_add,Nat.add_comm,Mc.iter_add,hk,Mc.iter_over hoA]
theorem Ran.sim{ps:List PF}{N:Nat}{inpA inpB:List Int}{F G:Int}{outA outB:List Ev}(hF0:0≤F)(hG0:0≤G)(hA:Ran ps inpA F outA)(hB:Ran ps inpB G outB)(hN:N≤outA.length)(hF:F=G∨(F≤G∧(N<outA.length∨∀l e,outA=l++[e]→e.value≠1)))
  (hin:∀i,i<(b0i (outA.take N)).length→inpA.getD i 0=inpB.getD i 0):N≤outB.length∧outA.take N=outB.take N:=by
 have hs:=Sim.iter hF0 hG0 hA hN hF hin;obtain⟨mA,⟨kA,hkA⟩,hoA,rfl⟩:=hA;obtain⟨mB,⟨kB,hkB⟩,hoB,rfl⟩:=hB;have h:=hs (kA+kB);rw[Mc.iter_add,hkA,Mc.iter_over hoA,Nat.add_comm,Mc.iter_add,hkB,Mc.iter_over hoB] at h;rcases h with⟨i,rfl⟩ | ⟨-,h2,h3⟩
 ·exact⟨hN,rfl⟩
 ·exact⟨h2,h3⟩
theorem b3C:∀(l:List Ev) (acc:List Int),(∀x∈b0i l,Num x)→acc.length≤50→(∀i x,(b0i l)[i]? = some x→50≤acc.length+i→x=0)→b2A l acc=some ((acc++b0i l).take 50)
 | [],acc,_,h50,_=>by rw[b2A];simp[b0i,List.take_of_length_le h50]
 | e::l,acc,hn,h50,hz=>by
  rw[b2A];by_cases h3:e.kind=3
  ·have hv:b0i (e::l)=e.value::b0i l:=by simp[b0i,h3]
   rw[hv] at hn hz ⊢;rw[if_neg (fun h=>h h3)];have hne:Num e.value:=hn _ (by simp);by_cases h5:acc.length=50
   ·have h0:e.value=0:=hz 0 _ rfl (by omega)
    rw[if_neg (by rintro(h | h);exact h hne;exact h.2 h0),if_neg (by omega),b3C l acc (fun x hx=>hn x (by simp[hx])) h50 (fun i x hx hi=>hz (i+1) x (by simpa using hx) (by omega)),
     List.take_append_of_le_length (by omega),List.take_append_of_le_length (by omega)]
   ·rw[if_neg (by rintro(h | h);exact h hne;exact h5 h.1),if_pos (by omega),b3C l (acc++[e.value]) (fun x hx=>hn x (by simp[hx])) (by simp;omega) (fun i x hx hi=>hz (i+1) x (by simpa using hx) (by simp at hi;omega)),List.append_assoc];rfl
  ·have hv:b0i (e::l)=b0i l:=by simp[b0i,h3]
   rw[hv] at hn hz ⊢;rw[if_pos h3];exact b3C l acc hn h50 hz
theorem c1F{l:List Ev}{N i:Nat}{x:Int}(h:(b0i (l.take N))[i]? = some x):(b0i l)[i]? = some x:=by
 have h1:l=l.take N++l.drop N:=(List.take_append_drop N l).symm;rw[h1,b1v,List.getElem?_append_left (List.getElem?_eq_some_iff.1 h).1];exact h
theorem c1a{inp:List Int}(h:∀n∈inp,Num n)(i:Nat):Num (inp.getD i 0):=by
 rw[List.getD_eq_getElem?_getD];cases hi:inp[i]? with
 | none=>unfold Num;decide
 | some x=>exact h x (List.mem_of_getElem? hi)
section
variable {ps:List PF}{inp:List Int}{fuel:Int}{out:List Ev}
theorem Ran.right(hp:Prog ps)(hi:∀n∈inp,Num n)(h50:inp.length≤50)(hf:0≤fuel)(hf5:fuel≤500)(h:Ran ps inp fuel out){N:Nat}(hN:N≤out.length):b2C ps (out.take N):=by
 have hfed:∀i x,(b0i (out.take N))[i]? = some x→x=inp.getD i 0:=fun i x hx=>h.fed hf i x (c1F hx)
 have hz:∀i x,(b0i (out.take N))[i]? = some x→50≤([]:List Int).length+i→x=0:=fun i x hx hi=>by
  rw[hfed i x hx,List.getD_eq_getElem?_getD,List.getElem?_eq_none (by simp at hi;omega)];rfl
 have hc:=b3C (out.take N) [] (fun x hx=>by
  obtain⟨i,hi'⟩:=List.getElem?_of_mem hx;rw[hfed i x hi'];exact c1a hi i) (by simp) hz
 rw[List.nil_append] at hc
 have hin:∀i,i<(b0i (out.take N)).length→inp.getD i 0=((b0i (out.take N)).take 50).getD i 0:=fun i hi=>by
  have hx:=List.getElem?_eq_getElem hi;have h1:=hfed i _ hx;rw[List.getD_eq_getElem?_getD (l:=List.take 50 _),List.getElem?_take];split
  ·rw[hx,Option.getD_some];exact h1.symm
  ·rw[Option.getD_none,←h1];exact hz i _ hx (by simp;omega)
 have hs:(b1M (out.take N):Int)≤fuel:=by
  have h1:=h.steps hf;have h2:b1j out=b1j (out.take N)+b1j (out.drop N):=by rw[←b2n,List.take_append_drop]
  have h3:b1M (out.take N)=b1j (out.take N):=rfl;omega
 have hnum:=b3a hc (fun n hn=>by simp at hn)
 have key:∀G:Int,0≤G→(fuel=G∨(fuel≤G∧(N<out.length∨∀l e,out=l++[e]→e.value≠1)))→b2U ps ((b0i (out.take N)).take 50) (out.take N) G:=fun G hG hc2=>by
  obtain⟨o2,h2,-⟩:=Ran.ex hp hnum hG;obtain⟨h3,h4⟩:=Ran.sim hf hG h h2 hN hc2 hin;have hl:(out.take N).length=N:=by rw[List.length_take];omega
  exact⟨o2,h2,by rw[hl];exact h3,by rw[hl];exact h4.symm⟩
 refine⟨_,hc,by omega,?_⟩;by_cases hlt:N<out.length
 ·exact Or.inl (key 500 (by omega) (Or.inr ⟨hf5,Or.inl hlt⟩))
 obtain⟨l,e,h1,-,-,h4⟩:=h.last hf;by_cases hv:e.value=1
 ·refine Or.inr (key _ (by omega) (Or.inl ?_));rw[List.take_of_length_le (by omega),←h4 hv];rfl
 ·refine Or.inl (key 500 (by omega) (Or.inr ⟨hf5,Or.inr fun l' e' h'=>?_⟩));rw[h1] at h';have:=List.append_inj' h' rfl;have h2:=this.2;injection h2 with h2;rw[←h2];exact hv
end
theorem c2A:b5X b1p=0:=by decide +kernel
theorem c4J:Ran b1p [7] 9 b3I:=⟨Mc.iter b1p 9 3 (b1R b1p [7]),⟨3,rfl⟩,by decide +kernel,by decide +kernel⟩
end Go.Proofs.Ytgkpplbomciehaa
