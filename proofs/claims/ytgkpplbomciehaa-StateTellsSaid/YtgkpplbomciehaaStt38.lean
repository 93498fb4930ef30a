/- Whether two lists of numbers are one: the reference's loop hands back just that. Each lemma states its own conditions. -/
import Derived.Test.YtgkpplbomciehaaRows
import Derived.Test.YtgkpplbomciehaaStt35
namespace Go.Proofs.Ytgkpplbomciehaa
open Go.RowKit
theorem b2M{α:Type}{xs ys:List α}{k:Nat}{x y:α}(hx:xs[k]? = some x)(hy:ys[k]? = some y)(h:xs.take k=ys.take k)(e:x=y):xs.take (k+1)=ys.take (k+1):=by
 rw[List.take_add_one,List.take_add_one,h,hx,hy,e]
theorem b3H{α:Type}{xs ys:List α}{k:Nat}{x y:α}(hx:xs[k]? = some x)(hy:ys[k]? = some y)(e:x≠y):xs≠ys:=by
 rintro rfl;rw[hx] at hy;exact e (by injection hy)
structure Fm where
 num:Int
 fn:Int
 vars:List (List Int)
structure Rp where
 frs:List Fm
 fns:List Int
def Fr.fm(f:Fr):Fm:=⟨f.num,f.fn,f.vars⟩
def Fit(ps:List PF)(s:Rp)(e:Ev):Prop:=
 (e.kind=5→e.value=s.fns.length∧0≤e.var∧e.var<ps.length∧(∃f,s.frs.getLast? = some f∧f.num=e.frame)) ∧
 (e.kind=6→2≤s.frs.length∧∃f,s.frs.getLast? = some f∧f.num=e.frame) ∧
 (e.kind=2→∃f l,s.frs.getLast? = some f∧f.num=e.frame∧0≤e.var∧f.vars[e.var.toNat]? = some l∧0≤e.index∧e.index<l.length) ∧
 (0≤e.frame∧e.frame<s.fns.length)
def Rp.ev(ps:List PF)(s:Rp)(e:Ev):Rp:=
 if e.kind=5 then⟨s.frs++[⟨e.value,e.var,b0c (ps.getD e.var.toNat noF).sizes⟩],s.fns++[e.var]⟩
 else if e.kind=6 then⟨s.frs.dropLast,s.fns⟩
 else if e.kind=2 then match s.frs.getLast? with
  | some f=>⟨s.frs.dropLast++[{ f with vars:=b2c f.vars e.var e.index e.value }],s.fns⟩
  | none=>s
 else s
def Rp.evs(ps:List PF):List Ev→Rp→Rp
 | [],s=>s
 | e::l,s=>Rp.evs ps l (s.ev ps e)
def b2V(ps:List PF):List Ev→Rp→Prop
 | [],_=>True
 | e::l,s=>Fit ps s e∧b2V ps l (s.ev ps e)
theorem b4g(ps:List PF):∀(a b:List Ev) (s:Rp),Rp.evs ps (a++b) s=Rp.evs ps b (Rp.evs ps a s)
 | [],_,_=>rfl
 | e::a,b,s=>b4g ps a b (s.ev ps e)
theorem b3L(ps:List PF):∀(a b:List Ev) (s:Rp),b2V ps (a++b) s↔b2V ps a s∧b2V ps b (Rp.evs ps a s)
 | [],b,s=>by simp[b2V,Rp.evs]
 | e::a,b,s=>by
  have:=b3L ps a b (s.ev ps e);simp only[List.cons_append,b2V,Rp.evs,this,and_assoc]
def Rp.start(ps:List PF):Rp:=⟨[⟨0,(ps.length:Int)-1,b0c (ps.getD (ps.length-1) noF).sizes⟩],[(ps.length:Int)-1]⟩
def c1O(_ps:List PF)(m:Mc)(s:Rp):Prop:=s.frs=(m.frames.map Fr.fm).reverse∧(s.fns.length:Int)=m.made∧∀f∈m.frames,0≤f.num∧f.num<m.made
def b2i(ps:List PF)(m:Mc):Prop:=b2V ps m.out (Rp.start ps)∧c1O ps m (Rp.evs ps m.out (Rp.start ps))
theorem b2i.start{ps:List PF}(_hp:0<ps.length)(inp:List Int):b2i ps (b1R ps inp):=by
 refine⟨trivial,rfl,rfl,fun f hf=>?_⟩;have h1:f=⟨0,(ps.length:Int)-1,-1,b0c (ps.getD (ps.length-1) noF).sizes,b1G (ps.getD (ps.length-1) noF).cmds (b0l ps (ps.length-1))++[.back]⟩:=by simpa[b1R] using hf
 subst h1;simp[b1R]
section
variable {ps:List PF}{m:Mc}
theorem c1O.last{s:Rp}{f:Fr}{rest:List Fr}(h:c1O ps m s)(hf:m.frames=f::rest):s.frs.getLast? = some f.fm∧s.frs.dropLast=(rest.map Fr.fm).reverse:=by
 rw[h.1,hf,List.map_cons,List.reverse_cons];simp
theorem b2i.plain{m':Mc}{e:Ev}(h:b2i ps m)(ho:m'.out=m.out++[e])(hv:m'.frames.map Fr.fm=m.frames.map Fr.fm)(hm:m'.made=m.made)(h2:e.kind≠2)(h5:e.kind≠5)(h6:e.kind≠6)(hn:m.frames≠[])(hf:e.frame=m.num):b2i ps m':=by
 obtain⟨h1,h3,h4,h7⟩:=h
 have hs:(Rp.evs ps m.out (Rp.start ps)).ev ps e=Rp.evs ps m.out (Rp.start ps):=by
  unfold Rp.ev;rw[if_neg h5,if_neg h6,if_neg h2]
 refine⟨?_,?_⟩
 ·rw[ho,b3L];refine⟨h1,⟨fun h=>absurd h h5,fun h=>absurd h h6,fun h=>absurd h h2,?_⟩,trivial⟩;cases hfr:m.frames with
  | nil=>exact absurd hfr hn
  | cons f rest =>
   have:=h7 f (by rw[hfr];simp);have hnum:m.num=f.num:=by unfold Mc.num;rw[hfr]
   rw[hf,hnum];omega
 ·rw[ho,b4g];show c1O ps m' ((Rp.evs ps m.out (Rp.start ps)).ev ps e);rw[hs];refine⟨by rw[h3,hv],by rw[hm];exact h4,fun f hf'=>?_⟩;have:f.fm∈m.frames.map Fr.fm:=by rw[←hv];exact List.mem_map_of_mem hf'
  obtain⟨g,hg,hfg⟩:=List.mem_map.1 this;have h8:=h7 g hg;have:g.num=f.num:=by injection hfg
  rw[hm];omega
theorem b2i.tell(h:b2i ps m){k a v i n:Int}(h2:k≠2)(h5:k≠5)(h6:k≠6)(hn:m.frames≠[]):b2i ps (m.tell k a v i n):=h.plain rfl rfl rfl h2 h5 h6 hn rfl
theorem b2i.end_(h:b2i ps m)(a how:Int)(hn:m.frames≠[]):b2i ps (m.end_ a how):=h.plain rfl rfl rfl (by simp) (by simp) (by simp) hn rfl
theorem b2i.same{m':Mc}(h:b2i ps m)(ho:m'.out=m.out)(hv:m'.frames.map Fr.fm=m.frames.map Fr.fm)(hm:m'.made=m.made):b2i ps m':=by
 obtain⟨h1,h3,h4,h7⟩:=h;refine⟨by rw[ho];exact h1,by rw[ho,h3,hv],by rw[ho,hm];exact h4,fun f hf'=>?_⟩;have:f.fm∈m.frames.map Fr.fm:=by rw[←hv];exact List.mem_map_of_mem hf'
 obtain⟨g,hg,hfg⟩:=List.mem_map.1 this;have h8:=h7 g hg;have:g.num=f.num:=by injection hfg
 rw[hm];omega
theorem b2i.write{f:Fr}{rest:List Fr}(h:b2i ps m)(hf:m.frames=f::rest){v i:Int}{l:List Int}(hv:0≤v)(hl:f.vars[v.toNat]? = some l)(hi:0≤i)(hil:i<l.length)(a n:Int):b2i ps (m.write a v i n):=by
 obtain⟨h1,h2⟩:=h;obtain⟨hlast,hdrop⟩:=h2.last hf;have hn:((m.top fun f=>{ f with vars:=b2c f.vars v i n }).tell 2 a v i n).out=m.out++[⟨2,f.num,a,v,i,n⟩]:=by unfold Mc.tell Mc.top Mc.num;simp only[hf]
 have hfr:(m.write a v i n).frames={ f with vars:=b2c f.vars v i n }::rest:=by unfold Mc.write Mc.tell Mc.top;simp only[hf]
 obtain⟨h3,h4,h5⟩:=h2;have hnum:=h5 f (by rw[hf];simp);refine⟨?_,?_⟩
 ·show b2V ps ((m.top _).tell 2 a v i n).out _;rw[hn,b3L];refine⟨h1,⟨fun h=>by simp at h,fun h=>by simp at h,fun _=>⟨f.fm,l,hlast,rfl,hv,hl,hi,hil⟩,?_⟩,trivial⟩;show 0≤f.num∧f.num < _;omega
 ·show c1O ps _ (Rp.evs ps ((m.top _).tell 2 a v i n).out _);rw[hn,b4g]
  have he:(Rp.evs ps m.out (Rp.start ps)).ev ps ⟨2,f.num,a,v,i,n⟩=⟨(rest.map Fr.fm).reverse++[{ f.fm with vars:=b2c f.vars v i n }],(Rp.evs ps m.out (Rp.start ps)).fns⟩:=by
   unfold Rp.ev;rw[if_neg (by simp),if_neg (by simp),if_pos rfl,hlast,hdrop];rfl
  show c1O ps _ ((Rp.evs ps m.out (Rp.start ps)).ev ps ⟨2,f.num,a,v,i,n⟩);rw[he];refine⟨?_,h4,fun g hg=>?_⟩
  ·rw[hfr];simp[Fr.fm]
  ·rw[hfr] at hg;rcases List.mem_cons.1 hg with rfl | hg
   ·exact hnum
   ·exact h5 g (by rw[hf];simp[hg])
theorem b2i.writes(a:Int):∀(l:List Int) (i:Nat) (m:Mc) (f:Fr) (rest:List Fr),b2i ps m→m.frames=f::rest→(∀j,i≤j→j<i+l.length→∃c,f.vars[j]? = some c∧0<c.length)→b2i ps (Mc.writes a l i m)
 | [],_,_,_,_,h,_,_=>h
 | n::l,i,m,f,rest,h,hf,hc=>by
  obtain⟨c,hc1,hc2⟩:=hc i (Nat.le_refl _) (by simp);have h1:=h.write hf (v:=(i:Int)) (i:=0) (l:=c) (by omega) (by simpa using hc1) (by omega) (by omega) a n;have hfr:(m.write a i 0 n).frames={ f with vars:=b2c f.vars i 0 n }::rest:=by unfold Mc.write Mc.tell Mc.top;simp only[hf]
  refine b2i.writes a l (i+1) _ _ rest h1 hfr fun j hj hj2=>?_;obtain⟨c2,h3,h4⟩:=hc j (by omega) (by simp;omega);refine⟨c2,?_,h4⟩;show(b2c f.vars i 0 n)[j]? = _;unfold b2c;rw[List.getElem?_set_ne (by simp;omega)];exact h3
end
section
variable {ps:List PF}{m:Mc}{fuel:Int}
theorem b2i.push{f:Fr}{rest:List Fr}(h:b2i ps m)(hf:m.frames=f::rest){v:Int}(hv0:0≤v)(hv1:v<ps.length)(a at2:Int)(ts:List Tk) :
  b2i ps { m.tell 5 a v 0 m.made with made:=m.made+1,frames:=⟨m.made,v,at2,b0c (ps.getD v.toNat noF).sizes,ts⟩::m.frames }:=by
 obtain⟨h1,h2⟩:=h;obtain⟨hlast,hdrop⟩:=h2.last hf;obtain⟨h3,h4,h5⟩:=h2;have hnum:=h5 f (by rw[hf];simp);have hn:(m.tell 5 a v 0 m.made).out=m.out++[⟨5,f.num,a,v,0,m.made⟩]:=by unfold Mc.tell Mc.num;simp only[hf]
 have he:(Rp.evs ps m.out (Rp.start ps)).ev ps ⟨5,f.num,a,v,0,m.made⟩=⟨(Rp.evs ps m.out (Rp.start ps)).frs++[⟨m.made,v,b0c (ps.getD v.toNat noF).sizes⟩],(Rp.evs ps m.out (Rp.start ps)).fns++[v]⟩:=by
  unfold Rp.ev;rw[if_pos rfl]
 refine⟨?_,?_⟩
 ·show b2V ps (m.tell 5 a v 0 m.made).out _;rw[hn,b3L];refine⟨h1,⟨fun _=>⟨h4.symm,hv0,hv1,f.fm,hlast,rfl⟩,fun h=>by simp at h,fun h=>by simp at h,?_⟩,trivial⟩;show 0≤f.num∧f.num < _;omega
 ·show c1O ps _ (Rp.evs ps (m.tell 5 a v 0 m.made).out _);rw[hn,b4g];show c1O ps _ ((Rp.evs ps m.out (Rp.start ps)).ev ps ⟨5,f.num,a,v,0,m.made⟩);rw[he];refine⟨?_,?_,fun g hg=>?_⟩
  ·rw[List.map_cons,List.reverse_cons,←h3];rfl
  ·rw[List.length_append];show((_+1:Nat):Int)=m.made+1;omega
  ·show 0≤g.num∧g.num<m.made+1;rcases List.mem_cons.1 hg with rfl | hg
   ·show 0≤m.made∧m.made<m.made+1;omega
   ·have:=h5 g hg;omega
theorem b2i.pop{f c c':Fr}{rest:List Fr}(h:b2i ps m)(hf:m.frames=f::c::rest)(hc:c'.fm=c.fm)(a n:Int):b2i ps { m.tell 6 a 0 0 n with frames:=c'::rest }:=by
 obtain⟨h1,h2⟩:=h;obtain⟨hlast,hdrop⟩:=h2.last hf;obtain⟨h3,h4,h5⟩:=h2;have hnum:=h5 f (by rw[hf];simp);have hn:(m.tell 6 a 0 0 n).out=m.out++[⟨6,f.num,a,0,0,n⟩]:=by unfold Mc.tell Mc.num;simp only[hf]
 have he:(Rp.evs ps m.out (Rp.start ps)).ev ps ⟨6,f.num,a,0,0,n⟩=⟨((c::rest).map Fr.fm).reverse,(Rp.evs ps m.out (Rp.start ps)).fns⟩:=by
  unfold Rp.ev;rw[if_neg (by simp),if_pos rfl,hdrop]
 refine⟨?_,?_⟩
 ·show b2V ps (m.tell 6 a 0 0 n).out _;rw[hn,b3L];refine⟨h1,⟨fun h=>by simp at h,fun _=>⟨by rw[h3,hf];simp,f.fm,hlast,rfl⟩,fun h=>by simp at h,?_⟩,trivial⟩;show 0≤f.num∧f.num < _;omega
 ·show c1O ps _ (Rp.evs ps (m.tell 6 a 0 0 n).out _);rw[hn,b4g];show c1O ps _ ((Rp.evs ps m.out (Rp.start ps)).ev ps ⟨6,f.num,a,0,0,n⟩);rw[he];refine⟨?_,h4,fun g hg=>?_⟩
  ·show((c::rest).map Fr.fm).reverse=((c'::rest).map Fr.fm).reverse;rw[List.map_cons,List.map_cons,hc]
  ·rcases List.mem_cons.1 hg with rfl | hg
   ·have h6:=h5 c (by rw[hf];simp);have:g.num=c.num:=by injection hc
    show 0≤g.num∧g.num<m.made;omega
   ·exact h5 g (by rw[hf];simp[hg])
theorem b4Z.var{z:List Int}{vs:List (List Int)}(h:b4Z z vs){v:Int}(h0:0≤v)(hv:v<z.length):∃l,vs[v.toNat]? = some l∧(z.getD v.toNat 0≤0→0<l.length):=by
 have hlt:v.toNat<vs.length:=by rw[h.1];omega
 exact⟨_,List.getElem?_eq_getElem hlt,fun hz=>(h.2 _ _ (List.getElem?_eq_getElem hlt)).1 hz⟩
theorem b9o{z:List Int}(h:∀n∈z,0≤n∧n≤8){j:Nat}(hj:j<z.length):∃c,(b0c z)[j]? = some c∧0<c.length:=by
 unfold b0c;rw[List.getElem?_map,List.getElem?_eq_getElem hj];refine⟨_,rfl,?_⟩;rw[List.length_replicate];have:=h _ (List.getElem_mem hj);split<;>omega
theorem b2i.do_(hp:Prog ps){f:Fr}{rest:List Fr}(hg:Good ps fuel m f rest)(h:b2i ps m):b2i ps (m.do_ ps fuel):=by
 obtain⟨hfr,⟨g,hf0,hgg,hfit,hts,-,-⟩,hfn,hrst,-,-,-,-,-,-,-,-⟩:=hg;cases htk:f.tasks with
 | nil=>rw[htk] at hts;exact hts.elim
 | cons t ts =>
  rw[htk] at hts;cases t with
  | back =>
   rw[Mc.do_back hfr htk];cases rest with
   | nil=>exact h.end_ _ _ (by rw[hfr];simp)
   | cons c rest =>
    obtain⟨⟨gc,hc0,hgc,hcfit,hcts,-,-⟩,⟨x,a,ts2,hctk,hx3⟩,hcfn,hrr⟩:=hrst;rw[Mc.back_one hctk];split
    ·exact h.end_ _ _ (by rw[hfr];simp)
    ·rw[hctk] at hcts;obtain⟨hxok,-⟩:=hcts;obtain⟨calls,hcl,hci⟩:=hxok.is;obtain⟨v0,v1⟩:=hci.var (by omega);obtain⟨l,hl,hll⟩:=hcfit.var v0 v1;have hl0:=hll (hci.one (by omega) (by omega));have hpop:=h.pop (c':={ c with tasks:=ts2 }) hfr rfl c.at_ ((ps.getD f.fn.toNat noF).result.val f.vars).1;exact hpop.write (f:={ c with tasks:=ts2 }) rfl v0 hl (by omega) (by omega) _ _
  | cmd x a =>
   rw[Mc.do_cmd hfr htk];obtain⟨hx,hts'⟩:=hts;obtain⟨calls,hcl,hci⟩:=hx.is;split
   ·exact h.end_ _ _ (by rw[hfr];simp)
   split
   ·rename_i h3
    have hs:b2i ps { m with steps:=m.steps+1,frames:={ f with at_:=a }::rest }:=h.same rfl (by rw[hfr];rfl) rfl;have h1:=hs.tell (k:=1) (a:=a) (v:=0) (i:=0) (n:=0) (by decide) (by decide) (by decide) (by simp);unfold Mc.call;split
    ·exact h1.end_ _ _ (by simp[Mc.tell])
    split
    ·exact h1.end_ _ _ (by simp[Mc.tell])
    rename_i hv0 hr5
    obtain⟨x0,x1⟩:=hci.fn h3;have hgg2:=Prog.get x0 (show x.fn<ps.length by omega);obtain⟨hl3,hlp⟩:=hp.args x0 (by omega) (hci.args h3);have hpf:=hp.fns _ _ hgg2;have h2:=h1.push rfl x0 (show x.fn<ps.length by omega) a (-1) (b1G (ps.getD x.fn.toNat noF).cmds (b0l ps x.fn.toNat)++[.back]);have hal:=b5O (vs:=f.vars) (l:=x.args) (by dsimp only at hv0;omega);refine h2.writes _ _ _ _ _ _ rfl fun j hj hj2=>?_;dsimp only at hj2 ⊢;refine b9o hpf.sz ?_;have:=hpf.par1;omega
   ·rename_i h3
    have hs:b2i ps { m with steps:=m.steps+1,frames:={ f with at_:=a,tasks:=ts }::rest }:=h.same rfl (by rw[hfr];rfl) rfl;have h1:=hs.tell (k:=1) (a:=a) (v:=0) (i:=0) (n:=0) (by decide) (by decide) (by decide) (by simp);have hne:(Mc.tell { m with steps:=m.steps+1,frames:={ f with at_:=a,tasks:=ts }::rest } 1 a 0 0 0).frames≠[]:=by simp[Mc.tell]
    unfold Mc.cmd;split
    ·rename_i h4
     obtain⟨v0,v1⟩:=hci.var (by omega);obtain⟨l,hl,hll⟩:=hfit.var v0 v1;have hl0:=hll (hci.one (by omega) (by omega));have h2:b2i ps { Mc.tell { m with steps:=m.steps+1,frames:={ f with at_:=a,tasks:=ts }::rest } 1 a 0 0 0 with inp:=m.inp.tail }:=h1.same rfl rfl rfl;have h5:=h2.tell (k:=3) (a:=a) (v:=0) (i:=0) (n:=m.inp.headD 0) (by decide) (by decide) (by decide) (by simp[Mc.tell]);exact h5.write (f:={ f with at_:=a,tasks:=ts }) rfl v0 hl (by omega) (by omega) _ _
    split
    ·exact h1.end_ _ _ hne
    split
    ·exact h1.end_ _ _ hne
    split
    ·rename_i h2
     obtain⟨v0,v1⟩:=hci.var (by omega);obtain⟨l,hl,-⟩:=hfit.var v0 v1;split
     ·rename_i hin
      dsimp only at hin;rw[List.getD_eq_getElem?_getD,hl,Option.getD_some] at hin;exact h1.write (f:={ f with at_:=a,tasks:=ts }) rfl v0 hl hin.1 hin.2 _ _
     ·exact h1.end_ _ _ hne
    split
    ·rename_i h2
     obtain⟨v0,v1⟩:=hci.var (by omega);obtain⟨l,hl,hll⟩:=hfit.var v0 v1;have hl0:=hll (hci.one (by omega) (by omega));exact h1.write (f:={ f with at_:=a,tasks:=ts }) rfl v0 hl (by omega) (by omega) _ _
    split
    ·exact h1.tell (by decide) (by decide) (by decide) hne
    split
    ·exact h1.same rfl rfl rfl
    split
    ·exact h1.same rfl rfl rfl
    ·exact h1
theorem b2i.iter(hp:Prog ps):∀(n:Nat) (m:Mc),b2i ps m→(m.over=true∨∃f rest,Good ps fuel m f rest)→b2i ps (m.iter ps fuel n)
 | 0,m,h,_=>h
 | n+1,m,h,hg=>by
  rw[Mc.iter];unfold Mc.go;rcases hg with ho | ⟨f,rest,hg⟩
  ·rw[ho,if_pos rfl];exact b2i.iter hp n m h (Or.inl ho)
  ·rw[hg.on,if_neg (by decide)];refine b2i.iter hp n _ (h.do_ hp hg) ?_;rcases(hg.step hp).2 with h1 | ⟨f',rest',h1,-⟩
   ·exact Or.inl h1
   ·exact Or.inr ⟨f',rest',h1⟩
end
theorem Ran.fits{ps:List PF}{inp:List Int}{fuel:Int}{out:List Ev}(hp:Prog ps)(hi:∀n∈inp,Num n)(hf:0≤fuel)(h:Ran ps inp fuel out):b2V ps out (Rp.start ps):=by
 obtain⟨m,⟨n,hn⟩,-,rfl⟩:=h;obtain⟨f,hg⟩:=Good.start (fuel:=fuel) hp hi hf;have:=b2i.iter hp n _ (b2i.start hp.pos inp) (Or.inr ⟨f,[],hg⟩);rw[hn] at this;exact this.1
theorem b2C.fits{ps:List PF}{l:List Ev}(hp:Prog ps)(h:b2C ps l):b2V ps l (Rp.start ps):=by
 obtain⟨inp,hc,-,hb⟩:=h;have hnum:=b3a hc (fun n hn=>by simp at hn)
 have key:∀F:Int,0≤F→b2U ps inp l F→b2V ps l (Rp.start ps):=fun F hF ⟨out,h1,_,h3⟩=>by
  have h4:=h1.fits hp hnum hF;rw[←List.take_append_drop l.length out,b3L,h3] at h4;exact h4.1
 rcases hb with hb | hb
 ·exact key _ (by decide) hb
 ·exact key _ (by omega) hb
abbrev RPT:TypeId:=132
abbrev SFT:TypeId:=87
structure Fx where
 f:Fm
 vv:Value
 gs:List Nat
def Fx.cells(x:Fx):List Value:=[.int .i64 x.f.num,.int .i64 x.f.fn,x.vv]
def fxC(xs:List Fx):List Value:=xs.flatMap Fx.cells
theorem b5c(a b:List Fx):fxC (a++b)=fxC a++fxC b:=by unfold fxC;rw[List.flatMap_append]
theorem c2o(xs:List Fx):(fxC xs).length=xs.length*3:=by
 induction xs with
 | nil=>rfl
 | cons x xs ih=>unfold fxC at *;rw[List.flatMap_cons,List.length_append,ih,List.length_cons];simp[Fx.cells];omega
structure Gst where
 P:Nat→TypeId→Array Value→Prop
 ok:∀{k t cs},P k t cs→t≠RPT∧t≠SFT∧t≠INT∧t≠b4b
def noG:Gst:=⟨fun _ _ _=>False,fun h=>h.elim⟩
structure RepD(G:Gst)(w0:World)(ps:List PF)(r:Nat)(w:World)(s:Rp)(vp vfr vfn:Value)(xs:List Fx):Prop where
 bel:Below w0.heap.size w0 w
 lo:w0.heap.size≤r
 blk:Blk w r RPT #[vp,vfr,vfn]
 prog:Sl pfR w0 vp ps
 frs:s.frs=xs.map Fx.f
 fns:w.ownsRow w0.heap.size INT 1 vfn s.fns.length (s.fns.map (Value.int .i64))
 row:w.ownsRow w0.heap.size SFT 3 vfr xs.length (fxC xs)
 vars:∀x∈xs,VarsG w w0.heap.size x.vv x.f.vars x.gs
 nd:(xs.flatMap Fx.gs).Nodup
 far:∀x∈xs,∀g∈x.gs,vfn.ownBlock≠some g
 gst:∀{k t cs},G.P k t cs→Blk w k t cs
def b6H(G:Gst)(w0:World)(ps:List PF)(r:Nat)(w:World)(s:Rp):Prop:=∃vp vfr vfn xs,RepD G w0 ps r w s vp vfr vfn xs
theorem VarsG.to2{w w':World}{lo:Nat}{v:Value}{vs:List (List Int)}{gs:List Nat}(h:VarsG w lo v vs gs)(hr:w'.ownsRow lo b4b 1 v vs.length (heads gs vs))(hb:∀(i g:Nat) (l:List Int),gs[i]? = some g→vs[i]? = some l→Blk w g INT (b0w l)→Blk w' g INT (b0w l)):VarsG w' lo v vs gs:=
 ⟨hr,h.len,h.nd,fun i g l hg hl=>⟨(h.blk i g l hg hl).1,(h.blk i g l hg hl).2.1,hb i g l hg hl (h.blk i g l hg hl).2.2⟩⟩
theorem VarsG.keep{w w':World}{lo:Nat}{v:Value}{vs:List (List Int)}{gs:List Nat}(h:VarsG w lo v vs gs)(hb:Bel w w'):VarsG w' lo v vs gs:=h.to (hb.own h.row) fun _ _ hg=>hg.keep hb
theorem VarsG.lt{w:World}{lo:Nat}{v:Value}{vs:List (List Int)}{gs:List Nat}(h:VarsG w lo v vs gs):∀g∈gs,lo≤g∧g<w.heap.size:=fun g hg=>by
 obtain⟨i,hi⟩:=List.getElem?_of_mem hg;have hlt:i<vs.length:=by rw[←h.len];exact(List.getElem?_eq_some_iff.1 hi).1
 obtain⟨h1,-,h3⟩:=h.blk i g _ hi (List.getElem?_eq_getElem hlt);exact⟨h1,h3.lt⟩
theorem VarsG.base{w:World}{lo lo':Nat}{v:Value}{vs:List (List Int)}{gs:List Nat}(h:VarsG w lo v vs gs)(hl:lo'≤lo):VarsG w lo' v vs gs:=by
 have ho:=h.row;refine⟨⟨ho.1,?_⟩,h.len,h.nd,fun i g l hg hx=>⟨by have:=(h.blk i g l hg hx).1;omega,(h.blk i g l hg hx).2⟩⟩;rcases ho.2 with hn | ⟨g,cap,cur,rfl,hbg,rest⟩
 ·exact .inl hn
 ·exact .inr ⟨g,cap,cur,rfl,by omega,rest⟩
section
variable {G:Gst}{w0 w W:World}{ps:List PF}{r:Nat}{s:Rp}{vp vfr vfn:Value}{xs:List Fx}
theorem RepD.keep(h:RepD G w0 ps r w s vp vfr vfn xs)(hW:Bel w W):RepD G w0 ps r W s vp vfr vfn xs:=
 ⟨Bel.trB h.bel hW h.bel.size,h.lo,h.blk.keep hW,h.prog,h.frs,hW.own h.fns,hW.own h.row,fun x hx=>(h.vars x hx).keep hW,h.nd,h.far,fun hk=>(h.gst hk).keep hW⟩
theorem b6H.keep(h:b6H G w0 ps r w s)(hW:Bel w W):b6H G w0 ps r W s:=by
 obtain⟨vp,vfr,vfn,xs,h⟩:=h;exact⟨vp,vfr,vfn,xs,h.keep hW⟩
theorem RepD.len(h:RepD G w0 ps r w s vp vfr vfn xs):s.frs.length=xs.length:=by rw[h.frs,List.length_map]
theorem b9b{xs:List Fx}{x:Fx}(h:(xs.flatMap Fx.gs).Nodup)(hx:x.gs.Nodup)(hd:∀y∈xs,∀g∈y.gs,g ∉ x.gs):((xs++[x]).flatMap Fx.gs).Nodup:=by
 rw[List.flatMap_append];refine List.nodup_append.2 ⟨h,by simpa using hx,fun a ha b hb=>?_⟩;obtain⟨y,hy,hg⟩:=List.mem_flatMap.1 ha;rintro rfl;exact hd y hy a hg (by simpa using hb)
theorem RepD.push{w1 W2:World}{u:Value}{gs:List Nat}{vfr':Value}(h:RepD G w0 ps r w s vp vfr vfn xs)(h1:Bel w w1){num fn:Int}{vs:List (List Int)}(hu:VarsG w1 w.heap.size u vs gs){w2:World}(h2:Bel w1 w2)
  (hg:w2.grownBy W2 vfr.ownBlock) (ho:W2.ownsRow w0.heap.size SFT 3 vfr' (xs.length+1) (fxC xs++[.int .i64 num,.int .i64 fn,u])) :
  RepD G w0 ps r (W2.setCell ⟨r,1,none⟩ vfr') ⟨s.frs++[⟨num,fn,vs⟩],s.fns⟩ vp vfr' vfn (xs++[⟨⟨num,fn,vs⟩,u,gs⟩]):=by
 have h02:=h1.tr h2;have hd:=h.keep h02;have hrow:=hd.row;have hB2:=hd.blk.grown hg (Blk.ne_own hd.blk hrow (by decide));have hbel:Below w0.heap.size w0 W2:=Below.grown hd.bel hg hd.bel.size (fun k hk=>(hrow.lt k hk).1);have hfns:=b5j hd.fns hrow (by decide) hg
 have hvar:∀{v:Value} {vs:List (List Int)} {gs:List Nat},VarsG w2 w0.heap.size v vs gs→VarsG (W2.setCell ⟨r,1,none⟩ vfr') w0.heap.size v vs gs:=fun hv=>by
  have hv2:=hv.to2 (b5j hv.row hrow (by decide) hg) (fun i g l _ _ hb=>hb.grown hg (Blk.ne_own hb hrow (by decide)));exact hv2.to2 (b1E hv2.row hB2 (by decide) 1 _) (fun i g l _ _ hb=>hb.aside hB2 (by decide) 1 _)
 refine⟨hbel.setCell (p:=⟨r,1,none⟩) h.lo _,h.lo,hB2.set_ 1 _,h.prog,by simp only[h.frs,List.map_append,List.map_cons,List.map_nil],b1E hfns hB2 (by decide) 1 _,?_,fun x hx=>?_,b9b h.nd hu.nd fun y hy g hgy=>?_,fun x hx g hgx=>?_,fun hk=>((hd.gst hk).grown hg (Blk.ne_own (hd.gst hk) hrow (G.ok hk).2.1.symm)).aside hB2 (G.ok hk).1 1 _⟩
 ·rw[b5c,List.length_append];exact b1E ho hB2 (by decide) 1 _
 ·rcases List.mem_append.1 hx with hx | hx
  ·exact hvar (hd.vars x hx)
  ·obtain rfl:=List.mem_singleton.1 hx;exact hvar ((hu.base h.bel.size).keep h2)
 ·have h3:=((h.vars y hy).lt g hgy).2;intro hgu;have:=(hu.lt g hgu).1;omega
 ·rcases List.mem_append.1 hx with hx | hx
  ·exact h.far x hx g hgx
  ·obtain rfl:=List.mem_singleton.1 hx;have h3:=(hu.lt g hgx).1;intro he;have:=(h.fns.lt g he).2;omega
theorem RepD.note{w1 W2:World}{vfn':Value}(h:RepD G w0 ps r w s vp vfr vfn xs)(h1:Bel w w1)(hg:w1.grownBy W2 vfn.ownBlock){n:Int}(ho:W2.ownsRow w0.heap.size INT 1 vfn' (s.fns.length+1) (s.fns.map (Value.int .i64)++[.int .i64 n]))
  (hn:∀g,vfn'.ownBlock=some g→vfn.ownBlock=some g∨w1.heap.size≤g):RepD G w0 ps r (W2.setCell ⟨r,2,none⟩ vfn') ⟨s.frs,s.fns++[n]⟩ vp vfr vfn' xs:=by
 have hd:=h.keep h1;have hrow:=hd.fns;have hB2:=hd.blk.grown hg (Blk.ne_own hd.blk hrow (by decide));have hbel:Below w0.heap.size w0 W2:=Below.grown hd.bel hg hd.bel.size (fun k hk=>(hrow.lt k hk).1);have hfr:=b5j hd.row hrow (by decide) hg;refine⟨hbel.setCell (p:=⟨r,2,none⟩) h.lo _,h.lo,hB2.set_ 2 _,h.prog,h.frs,?_,b1E hfr hB2 (by decide) 2 _,fun x hx=>?_,h.nd,fun x hx g hgx he=>?_,fun hk=>((hd.gst hk).grown hg (Blk.ne_own (hd.gst hk) hrow (G.ok hk).2.2.1.symm)).aside hB2 (G.ok hk).1 2 _⟩
 ·rw[List.length_append,List.map_append];exact b1E ho hB2 (by decide) 2 _
 ·have hv:=hd.vars x hx
  have hv2:=hv.to2 (b5j hv.row hrow (by decide) hg) (fun i g l hgi _ hb=>hb.grown hg (by
   have:=h.far x hx g (List.mem_of_getElem? hgi);exact fun e=>this e.symm))
  exact hv2.to2 (b1E hv2.row hB2 (by decide) 2 _) (fun i g l _ _ hb=>hb.aside hB2 (by decide) 2 _)
 ·rcases hn g he with h3 | h3
  ·exact h.far x hx g hgx h3
  ·have:=((hd.vars x hx).lt g hgx).2;omega
theorem RepD.pop{ys:List Fx}{x:Fx}{g cap:Nat}(h:RepD G w0 ps r w s vp (.slice (some ⟨g,0,none⟩) xs.length cap) vfn xs)(hx:xs=ys++[x]) :
  RepD G w0 ps r (w.setCell ⟨r,1,none⟩ (.slice (some ⟨g,0,none⟩) ys.length cap)) ⟨s.frs.dropLast,s.fns⟩ vp (.slice (some ⟨g,0,none⟩) ys.length cap) vfn ys:=by
 subst hx;have ho:=b8M h.row (k:=ys.length) (by simp);have hc:(fxC (ys++[x])).take (ys.length*3)=fxC ys:=by rw[b5c,List.take_left' (c2o ys)]
 rw[hc] at ho;refine⟨h.bel.setCell (p:=⟨r,1,none⟩) h.lo _,h.lo,h.blk.set_ 1 _,h.prog,by simp only[h.frs,List.map_append,List.map_cons,List.map_nil,List.dropLast_concat],b1E h.fns h.blk (by decide) 1 _,b1E ho h.blk (by decide) 1 _,fun y hy=>?_,?_,fun y hy=>h.far y (by simp[hy]),fun hk=>(h.gst hk).aside h.blk (G.ok hk).1 1 _⟩
 ·have hv:=h.vars y (by simp[hy]);exact hv.to2 (b1E hv.row h.blk (by decide) 1 _) (fun i g l _ _ hb=>hb.aside h.blk (by decide) 1 _)
 ·have:=h.nd;rw[List.flatMap_append] at this;exact(List.nodup_append.1 this).1
theorem RepD.write{ys:List Fx}{x:Fx}(h:RepD G w0 ps r w s vp vfr vfn xs)(hx:xs=ys++[x]){v i:Int}{l:List Int}{g:Nat}(hl:x.f.vars[v.toNat]? = some l)(hg:x.gs[v.toNat]? = some g)(n:Int) :
  RepD G w0 ps r (w.setCell ⟨g,i.toNat,none⟩ (.int .i64 n)) ⟨s.frs.dropLast++[{ x.f with vars:=b2c x.f.vars v i n }],s.fns⟩ vp vfr vfn (ys++[{ x with f:={ x.f with vars:=b2c x.f.vars v i n } }]):=by
 subst hx;have hvx:=h.vars x (by simp);obtain⟨hlo,-,hG⟩:=hvx.blk v.toNat g l hg hl;have hgm:g∈x.gs:=List.mem_of_getElem? hg;have hset:b2c x.f.vars v i n=x.f.vars.set v.toNat (l.set i.toNat n):=by unfold b2c;rw[b1A hl]
 refine⟨h.bel.setCell (p:=⟨g,i.toNat,none⟩) hlo _,h.lo,h.blk.aside hG (by decide) _ _,h.prog,by simp only[h.frs,List.map_append,List.map_cons,List.map_nil,List.dropLast_concat],c0e h.fns (fun k hk e=>h.far x (by simp) g hgm (by rw[hk,e])) _ _,?_,fun y hy=>?_,?_,fun y hy=>?_,fun hk=>(h.gst hk).aside hG (G.ok hk).2.2.1 _ _⟩
 ·have hr:=b1E h.row hG (by decide) i.toNat (.int .i64 n);have e:fxC (ys++[{ x with f:={ x.f with vars:=b2c x.f.vars v i n } }])=fxC (ys++[x]):=by rw[b5c,b5c];rfl
  rw[e,List.length_append];rw[List.length_append] at hr;exact hr
 ·rcases List.mem_append.1 hy with hy | hy
  ·have hv:=h.vars y (by simp[hy]);refine hv.to2 (b1E hv.row hG (by decide) _ _) (fun k g' l' hg' _ hb=>(heap_setCell_other w ⟨g,i.toNat,none⟩ g' _ ?_).trans hb);dsimp only;rintro rfl;have hnd:=h.nd;rw[List.flatMap_append] at hnd;exact(List.nodup_append.1 hnd).2.2 _ (List.mem_flatMap.2 ⟨y,hy,List.mem_of_getElem? hg'⟩) _ (by simpa using hgm) rfl
  ·obtain rfl:=List.mem_singleton.1 hy;show VarsG _ _ x.vv (b2c x.f.vars v i n) x.gs;rw[hset];exact hvx.set hl hg n
 ·have:=h.nd
  simpa[List.flatMap_append] using this
 ·rcases List.mem_append.1 hy with hy | hy
  ·exact h.far y (by simp[hy])
  ·obtain rfl:=List.mem_singleton.1 hy;exact h.far x (by simp)
theorem b6H.guest{G':Gst}(h:b6H G w0 ps r w s)(hg:∀{k t cs},G'.P k t cs→Blk w k t cs):b6H G' w0 ps r w s:=by
 obtain⟨vp,vfr,vfn,xs,h⟩:=h;exact⟨vp,vfr,vfn,xs,h.bel,h.lo,h.blk,h.prog,h.frs,h.fns,h.row,h.vars,h.nd,h.far,hg⟩
theorem b6H.gst(h:b6H G w0 ps r w s){k:Nat}{t:TypeId}{cs:Array Value}(hk:G.P k t cs):Blk w k t cs:=by
 obtain⟨vp,vfr,vfn,xs,h⟩:=h;exact h.gst hk
end
section
variable {P:Program}{md:Region.Mode}{ops:Array Oper}{Q:Exit→Act→World→Prop}{S:World→Prop}{fuel:Nat}{listed:Array Bool}{a:Act}{w:World}{i:Nat}
theorem b6C(d:Option Tmp){o:Oper}(hi:ops[i]? = some o)(hd:o.dst=d)(hw:Region.wanted o (yielded ops a.tmps)=true)(v:Value)(w':World)(hrun:(execOp a.eval o).run P w=.ok (.value v) w')
  (hS:S w') (h:wpAnyH P md ops Q S fuel (listed.setIfInBounds i true) (a.put d v) w'):b3T P md ops Q S fuel listed a w i:=
 wpOp_step hi fun _ hK=>by
  subst hd;rw[if_pos hw];unfold Oper.wp;rw[hrun,Oper.upon_value];exact hK _ _ ⟨hS,h⟩
end
theorem b4C{α:Type}{enc:α→List Value}{s:Nat}(hs:∀x,(enc x).length=s):∀(xs:List α) (k:Nat) (x:α) (j:Nat),xs[k]? = some x→j<s→(xs.flatMap enc)[k*s+j]? = (enc x)[j]?
 | [],k,x,j,h,_=>by simp at h
 | y::ys,0,x,j,h,hj=>by
  simp only[List.getElem?_cons_zero,Option.some.injEq] at h;subst h;rw[List.flatMap_cons,Nat.zero_mul,Nat.zero_add,List.getElem?_append_left (by rw[hs];exact hj)]
 | y::ys,k+1,x,j,h,hj=>by
  simp only[List.getElem?_cons_succ] at h;rw[List.flatMap_cons,List.getElem?_append_right (by rw[hs,Nat.add_mul,Nat.one_mul];omega),hs,show(k+1)*s+j-s=k*s+j by rw[Nat.add_mul,Nat.one_mul];omega];exact b4C hs ys k x j h hj
end Go.Proofs.Ytgkpplbomciehaa
