/- Lists with commas: what the program's parser reads is what the document's reads. Each lemma states its own conditions. -/
import Derived.Test.YtmfjlcpjemccmaaGreatDoorSbk41
namespace Go.Proofs.YtmfjlcpjemccmaaGreatDoor
open Go.RowKit
def b3F{α:Type}(l:List Tok)(M A:List α×RS):Prop:=(M.2.2=true→A.2=M.2)∧(M.2.2=false→b0A l b0Y A.2=b0A l b0Y M.2∧((b0A l b0Y M.2).2=false→A.1=M.1))
section
variable {α:Type}{l:List Tok}{M A:List α×RS}
theorem b3F.cons(x:α)(h:b3F l M A):b3F l (x::M.1,M.2) (x::A.1,A.2):=⟨h.1,fun e=>⟨(h.2 e).1,fun f=>by rw[(h.2 e).2 f]⟩⟩
theorem b3F.one(x:α){r:RS}(h:r.2=true):b3F l ([x],r) ([x],r):=⟨fun _=>rfl,fun e=>absurd (h.symm.trans e) (by decide)⟩
theorem b3F.nil{r:RS}:b3F (α:=α) l ([],r) ([],r):=⟨fun _=>rfl,fun _=>⟨rfl,fun _=>rfl⟩⟩
theorem b3F.off{xs:List α}{p:Nat}(h:tx l p false≠b0Y):b3F l ([],(p,false)) (xs,(p,true)):=
 ⟨(fun h=>by cases h),fun _=>⟨by rw[b4o h,b0a],fun e=>by rw[b4o h] at e;cases e⟩⟩
end
theorem b7n:b0e≠b0Y:=by decide
theorem b7q{q:RS}:b1c true q=(q.1,true):=rfl
theorem b3Y{q:RS}:b1c false q=q:=rfl
def c4Y(l:List Tok)(q:RS):RS:=b1c (decide (tx l q.1 q.2≠b0e∧tx l q.1 q.2≠b0Y)) q
theorem c0k{l:List Tok}{q:RS}(h:q.2=true):c4Y l q=q:=by
 obtain⟨p,f⟩:=q;obtain rfl:f=true:=h;unfold c4Y b1c;split<;>rfl
theorem b8Q{l:List Tok}{q:RS}(h:tx l q.1 q.2=b0e∨tx l q.1 q.2=b0Y):c4Y l q=q:=by
 unfold c4Y;rw[decide_eq_false (by rintro⟨h1,h2⟩;exact h.elim h1 h2),b3Y]
theorem c4Z{l:List Tok}{p:Nat}(h1:tx l p false≠b0e)(h2:tx l p false≠b0Y):c4Y l (p,false)=(p,true):=by
 unfold c4Y;rw[decide_eq_true ⟨h1,h2⟩,b7q]
theorem b5R{l:List Tok}{E n k:Nat}{q:RS}(h1:q.2=false)(h2:tx l q.1 q.2≠b0Y):b2l l E (n+1) k q=((b0K l E 60 (if 0<k then b0A l b0e q else q)).1::(b2l l E n (k+1) (c4Y l (b0K l E 60 (if 0<k then b0A l b0e q else q)).2)).1,(b2l l E n (k+1) (c4Y l (b0K l E 60 (if 0<k then b0A l b0e q else q)).2)).2):=b8R h1 h2
theorem b9H{l:List Tok}{E:Nat}(hok:∀t∈l,b0r t):∀(n m c p:Nat),p≤l.length→l.length-p<n→l.length-p<m→b3F l (b3d l (fun k=>b0K l E 60 (k,false)) n p) (b2l l E m (c+1) (c4Y l (p,false)))
 | 0,_,_,_,_,h,_=>absurd h (Nat.not_lt_zero _)
 | _,0,_,_,_,_,h=>absurd h (Nat.not_lt_zero _)
 | n+1,m+1,c,p,hp,hn,hm=>by
  by_cases h1:tx l p false=b0Y
  ·rw[b3R (fun e=>b7n (e.symm.trans h1)),b8Q (Or.inr h1),b2I (q:=(p,false)) (Or.inr h1)];exact .nil
  ·by_cases h2:tx l p false=b0e
   ·have hlt:=b3E (l:=l) (p:=p) (f:=false) (by rw[h2];decide);have hg:=b2O (E:=E) hok 60 (p+1,false);rw[b8Q (q:=(p,false)) (Or.inl h2),b5R (q:=(p,false)) rfl h1,if_pos (Nat.succ_pos c),b0G h2];cases he:(b0K l E 60 (p+1,false)).2.2 with
    | true =>
     rw[b5a h2 he,c0k he,b2I (Or.inl he)];exact .one _ he
    | false =>
     rw[b6h h2 he];refine .cons _ ?_;have:=b9H (E:=E) hok n m (c+1) (b0K l E 60 (p+1,false)).2.1 (hg.2.1 hlt) (by have:=hg.1;dsimp only at this;omega) (by have:=hg.1;dsimp only at this;omega)
     rwa [show((b0K l E 60 (p+1,false)).2.1,false)=(b0K l E 60 (p+1,false)).2 from(b8x he).symm] at this
   ·rw[b3R h2,c4Z h2 h1,b2I (Or.inl rfl)];exact .off h1
theorem c2t{l:List Tok}{E:Nat}(hok:∀t∈l,b0r t)(p:Nat)(hp:p≤l.length):b3F l (b4Y l b0Y (fun k=>b0K l E 60 (k,false)) (l.length+1) p) (b2l l E (l.length+1) 0 (p,false)):=by
 unfold b4Y;by_cases h1:tx l p false=b0Y
 ·rw[if_pos h1,b2I (q:=(p,false)) (Or.inr h1)];exact .nil
 ·have hg:=b2O (E:=E) hok 60 (p,false);rw[if_neg h1,b5R (q:=(p,false)) rfl h1,if_neg (Nat.lt_irrefl 0)];cases he:(b0K l E 60 (p,false)).2.2 with
  | true =>
   rw[if_pos rfl,c0k he,b2I (Or.inl he)];exact .one _ he
  | false =>
   rw[if_neg (by decide)];refine .cons _ ?_;have hs:p<(b0K l E 60 (p,false)).2.1:=(b6c (l:=l) (E:=E) 60 (p,false)).resolve_left (by rw[he];decide);have hq:=hg.2.1 hp;have:=b9H (E:=E) hok (l.length+1) l.length 0 (b0K l E 60 (p,false)).2.1 hq (by omega) (by omega)
   rwa [show((b0K l E 60 (p,false)).2.1,false)=(b0K l E 60 (p,false)).2 from(b8x he).symm] at this
theorem b4K{l:List Tok}{n k:Nat}{q:RS}(h1:q.2=false)(h2:tx l q.1 q.2≠b0Y):b0z l (n+1) k q=((b0D l (if 0<k then b0A l b0e q else q)).1::(b0z l n (k+1) (b0D l (if 0<k then b0A l b0e q else q)).2).1,(b0z l n (k+1) (b0D l (if 0<k then b0A l b0e q else q)).2).2):=by
 rw[b0z,if_neg (by rintro(h | h);exact absurd (h1.symm.trans h) (by decide);exact h2 h)]
theorem b7S{l:List Tok}:∀(n m c p:Nat),p≤l.length→l.length-p<n→l.length-p<m→b3F l (b3d l (fun k=>b0D l (k,false)) n p) (b0z l m (c+1) (p,false))
 | 0,_,_,_,_,h,_=>absurd h (Nat.not_lt_zero _)
 | _,0,_,_,_,_,h=>absurd h (Nat.not_lt_zero _)
 | n+1,m+1,c,p,hp,hn,hm=>by
  by_cases h1:tx l p false=b0Y
  ·rw[b3R (fun e=>b7n (e.symm.trans h1)),b1Q (q:=(p,false)) (Or.inr h1)];exact .nil
  ·rw[b4K (q:=(p,false)) rfl h1,if_pos (Nat.succ_pos c)];by_cases h2:tx l p false=b0e
   ·have hlt:=b3E (l:=l) (p:=p) (f:=false) (by rw[h2];decide);have hg:=b3n (l:=l) (p+1,false);rw[b0G h2];cases he:(b0D l (p+1,false)).2.2 with
    | true =>
     rw[b5a h2 he,b1Q (Or.inl he)];exact .one _ he
    | false =>
     rw[b6h h2 he];refine .cons _ ?_;have:=b7S n m (c+1) (b0D l (p+1,false)).2.1 (hg.2.1 hlt) (by have:=hg.1;dsimp only at this;omega) (by have:=hg.1;dsimp only at this;omega)
     rwa [show((b0D l (p+1,false)).2.1,false)=(b0D l (p+1,false)).2 from(b8x he).symm] at this
   ·rw[b3R h2,b4o h2,b7J,b1Q (Or.inl rfl)];exact .off h1
theorem c0G{l:List Tok}(p:Nat)(hp:p≤l.length):b3F l (b4Y l b0Y (fun k=>b0D l (k,false)) (l.length+1) p) (b0z l (l.length+1) 0 (p,false)):=by
 unfold b4Y;by_cases h1:tx l p false=b0Y
 ·rw[if_pos h1,b1Q (q:=(p,false)) (Or.inr h1)];exact .nil
 ·rw[if_neg h1,b4K (q:=(p,false)) rfl h1,if_neg (Nat.lt_irrefl 0)];have hg:=b3n (l:=l) (p,false);cases he:(b0D l (p,false)).2.2 with
  | true =>
   rw[if_pos rfl,b1Q (Or.inl he)];exact .one _ he
  | false =>
   rw[if_neg (by decide)];refine .cons _ ?_;have hs:p<(b0D l (p,false)).2.1:=(b6i (l:=l) (p,false)).resolve_left (by rw[he];decide);have hq:=hg.2.1 hp;have:=b7S (l:=l) (l.length+1) l.length 0 (b0D l (p,false)).2.1 hq (by omega) (by omega)
   rwa [show((b0D l (p,false)).2.1,false)=(b0D l (p,false)).2 from(b8x he).symm] at this
structure G2(w w':World)(g Q:Nat):Prop where
 os:w'.os=w.os
 tape:w'.tape=w.tape
 output:w'.output=w.output
 size:w.heap.size≤w'.heap.size
 block:∀k,k<w.heap.size→k≠g→k≠Q→w'.heap[k]? = w.heap[k]?
section
variable {w W W':World}{g Q:Nat}
theorem G2.refl(w:World)(g Q:Nat):G2 w w g Q:=⟨rfl,rfl,rfl,Nat.le_refl _,fun _ _ _ _=>rfl⟩
theorem G2.grow(h:G2 w W g Q){o:Option Nat}(k:W.grownBy W' o)(ho:∀x,o=some x→x=g∨x=Q∨w.heap.size≤x):G2 w W' g Q:=
 ⟨k.os.trans h.os,k.tape.trans h.tape,k.output.trans h.output,Nat.le_trans h.size k.size,fun x hx h1 h2=>(k.block x (Nat.lt_of_lt_of_le hx h.size) (fun e=>by
  rcases ho x e.symm with h3 | h3 | h3
  ·exact h1 h3
  ·exact h2 h3
  ·omega)).trans (h.block x hx h1 h2)⟩
theorem G2.keep(h:G2 w W g Q)(hb:Bel W W'):G2 w W' g Q:=h.grow (hb.grown none) fun _ e=>by cases e
theorem G2.par(h:G2 w W g Q)(k:W.grownBy W' (some g)):G2 w W' g Q:=h.grow k fun _ e=>Or.inl (Option.some.inj e).symm
theorem G2.cmd(h:G2 w W g Q)(k:W.grownBy W' (some Q)):G2 w W' g Q:=h.grow k fun _ e=>Or.inr (Or.inl (Option.some.inj e).symm)
theorem G2.bel(h:G2 w W g Q){w0:World}(h0:Bel w0 w)(hg:w0.heap.size≤g)(hQ:w0.heap.size≤Q):Bel w0 W:=
 ⟨h.os.trans h0.os,h.tape.trans h0.tape,h.output.trans h0.output,Nat.le_trans h0.size h.size,fun k hk=>(h.block k (Nat.lt_of_lt_of_le hk h0.size) (by omega) (by omega)).trans (h0.block k hk)⟩
theorem G2.low(h:G2 W W' g Q){B:Nat}(hg:g<B)(hQ:Q<B):Bel (low B W) (low B W'):=b5x h.os h.tape h.output h.size fun k hk hlt=>h.block k hlt (by omega) (by omega)
theorem G2.blk(h:G2 W W' g Q){b:Nat}{t:TypeId}{cs:Array Value}(hb:Blk W b t cs)(h1:b≠g)(h2:b≠Q):Blk W' b t cs:=(h.block b hb.lt h1 h2).trans hb
theorem BlP.g2{X:World}{lv:Value}{E p p':Nat}{t:TypeId}{R q:Nat}{zs cs cs':Array Value}(h:BlP w X W g lv E p t R q zs cs)(k:G2 W W' g q)(hp:Ps W' g lv p' E)(hq:Blk W' q t cs'):BlP w X W' g lv E p' t R q zs cs':=by
 obtain⟨h1,h2,h3,h4,h5,h6,h7⟩:=h;refine⟨hp,hq,k.blk h3 (by omega) (by omega),⟨k.os.trans h4.os,k.tape.trans h4.tape,k.output.trans h4.output,Nat.le_trans h4.size k.size,fun x hx hne=>(k.block x (Nat.lt_of_lt_of_le hx h4.size) (fun e=>hne (by rw[e])) (by omega)).trans (h4.block x hx hne)⟩,h5,Nat.le_trans h6 k.size,h7.tr (k.low (by omega) (by omega))⟩
end
def Bec(w X W:World)(g:Nat)(lv:Value)(E p Q:Nat)(cs:Array Value):Prop:=
 Ps W g lv p E∧Blk W Q 53 cs∧G2 w W g Q∧(g<w.heap.size∧Q<w.heap.size∧g≠Q)∧Bel (low w.heap.size X) (low w.heap.size W)
section
variable {w X W W':World}{g:Nat}{lv:Value}{E p p' Q:Nat}{cs cs':Array Value}
theorem Bec.start(h:Ps w g lv p E)(hq:Blk w Q 53 cs)(hne:g≠Q):Bec w w w g lv E p Q cs:=⟨h,hq,G2.refl _ _ _,⟨h.lt,hq.lt,hne⟩,Bel.rfl_ _⟩
theorem Bec.keep(h:Bec w X W g lv E p Q cs)(hb:Bel W W'):Bec w X W' g lv E p Q cs:=⟨h.1.keep hb,h.2.1.keep hb,h.2.2.1.keep hb,h.2.2.2.1,h.2.2.2.2.tr (b0S hb)⟩
theorem Bec.grown(h:Bec w X W g lv E p Q cs)(hg:W.grownBy W' (some g))(hp:Ps W' g lv p' E):Bec w X W' g lv E p' Q cs:=
 ⟨hp,h.2.1.grown hg (by have:=h.2.2.2.1.2.2;simp;omega),h.2.2.1.par hg,h.2.2.2.1,h.2.2.2.2.tr (b0M hg h.2.2.2.1.1)⟩
theorem Bec.put(h:Bec w X W g lv E p Q cs)(i:Nat)(u:Value):Bec w X (W.setCell ⟨Q,i,none⟩ u) g lv E p Q (cs.setIfInBounds i u):=by
 obtain⟨h1,h2,h3,h4,h5⟩:=h;exact⟨Blk.far_ h1 h4.2.2 i u,h2.set_ i u,h3.cmd (b0n W Q i u),h4,h5.tr (b0O W u h4.2.1)⟩
theorem Bec.at_(h:Bec w X W g lv E p Q cs):Bec w X (W.setCell ⟨g,1,none⟩ (.int .i64 ((p:Int)+1))) g lv E (p+1) Q cs:=h.grown (b0n W g 1 _) (h.1.at_ (by omega))
theorem Bec.to(h:Bec w X W g lv E p Q cs)(he:cs=cs'):Bec w X W g lv E p Q cs':=he▸h
theorem Bec.fresh(h:Bec w X W g lv E p Q cs):Bec w W W g lv E p Q cs:=⟨h.1,h.2.1,h.2.2.1,h.2.2.2.1,Bel.rfl_ _⟩
theorem Bec.cell(h:Bec w X W g lv E p Q cs)(i:Nat){v:Value}(hv:cs[i]? = some v):W.cell? ⟨Q,i,none⟩=some v:=h.2.1.cell hv
theorem Bec.frozen(h:Bec w X W g lv E p Q cs)(i:Nat):W.frozen? ⟨Q,i,none⟩=false:=h.2.1.frozen i
theorem Bec.go(h:Bec w X W g lv E p Q cs):W.cell? ⟨g,1,none⟩=some (.int .i64 p)∧W.frozen? ⟨g,1,none⟩=false:=⟨h.1.go.2.1,h.1.go.2.2.2⟩
theorem Bec.size(h:Bec w X W g lv E p Q cs):w.heap.size≤W.heap.size:=h.2.2.1.size
theorem Bec.grew(h:Bec w X W g lv E p Q cs):G2 w W g Q:=h.2.2.1
theorem Bec.lt(h:Bec w X W g lv E p Q cs):g<w.heap.size∧Q<w.heap.size∧g≠Q:=h.2.2.2.1
theorem Bec.low_(h:Bec w X W g lv E p Q cs):Bel (low w.heap.size X) (low w.heap.size W):=h.2.2.2.2
theorem Bec.bel(h:Bec w X W g lv E p Q cs){w0:World}(h0:Bel w0 w)(hg:w0.heap.size≤g)(hQ:w0.heap.size≤Q):Bel w0 W:=h.2.2.1.bel h0 hg hQ
end
def b4P(w:World)(g:Nat)(lv:Value)(l:List Tok)(E Q:Nat)(x:TC×RS)(r:Ending)(w':World):Prop:=
 G2 w w' g Q∧(x.2.2=true→r=b7i (place l E x.2.1))∧(x.2.2=false→r=.returned (.tuple #[])∧Ps w' g lv x.2.1 E∧∃cs,Blk w' Q 53 cs.toArray∧tcR.R (low w.heap.size w') cs x.1)
section
variable {w w':World}{g:Nat}{lv:Value}{l:List Tok}{E Q:Nat}{x:TC×RS}
theorem b4P.mkBad{p:Nat}(hx:x.2=(p,true))(h:G2 w w' g Q):b4P w g lv l E Q x (b7i (place l E p)) w':=by
 refine⟨h,fun _=>by rw[hx],fun h=>?_⟩;rw[hx] at h;cases h
theorem b4P.mkGood{p:Nat}{c:TC}{cs:List Value}{W0:World}(hx:x=(c,(p,false)))(h:Bec w W0 w' g lv E p Q cs.toArray)(hc:tcR.R (low w.heap.size w') cs c):b4P w g lv l E Q x (.returned (.tuple #[])) w':=by
 subst hx;exact⟨h.grew,(fun h=>by cases h),fun _=>⟨rfl,h.1,cs,h.2.1,hc⟩⟩
end
def b6W(l:List Tok)(E:Nat)(A0:Int)(r:RS):TC×RS:=
 let n:=b0D l r
 if tx l n.2.1 n.2.2=b1o then
  let i:=b0K l E 60 (b0A l b1o n.2)
  let e:=b0K l E 60 (b0A l eqB (b0A l b4p i.2))
  (.mk 2 A0 n.1 emp i.1 e.1 [] [] [],e.2)
 else
  let q:=b0A l eqB n.2
  if tx l q.1 q.2=b2P then(.mk 4 A0 n.1 emp b1P b1P [] [] [],b0A l b2P q)
  else if b0H (tx l q.1 q.2)=true∧tx1 l q=b0T then
   let o:=b0D l q
   let m:=b2l l E (l.length+1) 0 (b0A l b0T o.2)
   (.mk 3 A0 n.1 o.1 b1P b1P m.1 [] [],b0A l b0Y m.2)
  else
   let e:=b0K l E 60 q
   (.mk 1 A0 n.1 emp b1P e.1 [] [] [],e.2)
theorem c4m{l:List Tok}{E:Nat}{blk:RS→List TC×RS}{p:Nat}(h1:tx l p false≠b1R)(h2:tx l p false≠ifB)(h3:tx l p false≠b1e) :
  b3O l E blk (p,false)=((b6W l E (place l E p) (p,false)).1,b0A l b0s (b6W l E (place l E p) (p,false)).2):=by
 unfold b3O b6W;simp only[];rw[if_neg h1,if_neg (by rintro(e | e);exact h2 e;exact h3 e)];split
 ·rfl
 ·split
  ·rfl
  ·split
   ·rfl
   ·rfl
section
variable {P:Program}{ops:Array Oper}{Q:Exit→Act→World→Prop}{md:Region.Mode}{S:World→Prop}{fuel:Nat}{listed:Array Bool}{a:Act}
theorem c1J{i:Nat}(d:Option Tmp){o:Oper}(hr:Region.ready md ops listed=[i])(hi:ops[i]? = some o)(hd:o.dst=d)(W:World)(s x:Operand)(t:TypeId)(hgd:o.guard=none)
  (ho:o.op=.call { callee:=.builtin .append,args:=#[s,x],argTypes:=#[t,t] }) (base:Nat) {e:TypeId} {size bytes:Nat} (E:Elem P t e size bytes)
  (v:Value) (n:Nat) (xs:List Value) (hs:a.eval s=v) (hown:W.ownsRow base e size v n xs) (cs:List Value) (hx:a.eval x=.slice (some ⟨W.heap.size,0,none⟩) 1 1)
  (hl:cs.length=size) (h1:∀u∈cs,u.oneCell'=true) (h63:n+1≤maxLen) (hbytes:(n+1)*bytes≤140737488355328) (hbase:base≤W.heap.size)
  (h:∀g cap w',w'.ownsRow base e size (.slice (some ⟨g,0,none⟩) (n+1) cap) (n+1) (xs++cs)→W.grownBy w' v.ownBlock→(v.ownBlock=some g∨W.heap.size≤g) →
   S w'∧(S w'→wpAnyH P md ops Q S fuel (listed.setIfInBounds i true) (a.put d (.slice (some ⟨g,0,none⟩) (n+1) cap)) w')):wpAnyH P md ops Q S (fuel+1) listed a (W.alloc (.cells cs.toArray e)):=by
 subst hd;refine wpAnyH_ready hr (by simp) (AllReadyH.cons hi (fun K hK=>?_) AllReadyH.nil);exact b6s W hgd s x t ho base E v n xs hs hown cs W.heap.size rfl hx hl h1 h63 hbytes hbase (fun g cap w' h2 h3 h4=>hK.out _ _ (h g cap w' h2 h3 h4).1 (h g cap w' h2 h3 h4).2) rfl
end
section
variable {o:Oper}{ρ:Operand→Value}{W:World}{x y:Operand}{b f:Nat}{v u:Value}
theorem c5Y{A:Option Addr}{n c:Nat}(ho:o.op=.store 47 x y)(hx:ρ x=.pointer (some ⟨b,f,none⟩))(hy:ρ y=.slice A n c)(hc:W.cell? ⟨b,f,none⟩=some u)(hf:W.frozen? ⟨b,f,none⟩=false):(execOp ρ o).run Tryz.prog W=.ok .skip (W.setCell ⟨b,f,none⟩ (.slice A n c)):=by
 simp[execOp,ho,hx,hy,hc,hf,go_sem]
end
theorem b6Q.push2{α:Type}{r:Rep α}{e:TypeId}{B:Nat}{W W':World}{v v':Value}{xs:List α}{x:α}{cells cs:List Value}{C:Nat}(hm:b9G r)(h1:W.ownsRow B e r.size v xs.length cells)(h2:∀i x,xs[i]? = some x→r.R (mask (c2m B v) W) ((cells.drop (i*r.size)).take r.size) x)(h3:W'.ownsRow B e r.size v' (xs.length+1) (cells++cs))
  (hg:∀b,b<W.heap.size→B≤b→v.ownBlock≠some b→W'.heap[b]? = W.heap[b]?) (hv:v.ownBlock=v'.ownBlock∨∀k,v'.ownBlock=some k→W.heap.size≤k) (hx:r.R (low C W) cs x) (hC:B≤C) (hCv:∀k,v.ownBlock=some k→k<C):b6Q r e B W' v' (xs++[x]):=by
 have hl:=r.len hx;have hlen:cells.length=xs.length*r.size:=h1.1
 have hh:∀b,b<W.heap.size→v.ownBlock≠some b→B≤b→c2m B v' b=false∧W'.heap[b]? = W.heap[b]?:=fun b hlt hne hB=>by
  refine⟨c3t hB fun he=>?_,hg b hlt hB hne⟩;rcases hv with hv | hv
  ·exact hne (hv.trans he)
  ·have:=hv b he;omega
 refine⟨cells++cs,?_,fun i y hy=>?_⟩
 ·rw[List.length_append];exact h3
 ·rcases Nat.lt_or_ge i xs.length with hi | hi
  ·rw[List.getElem?_append_left hi] at hy;have h3':=h2 i y hy
   have h4:((cells++cs).drop (i*r.size)).take r.size=(cells.drop (i*r.size)).take r.size:=by
    have h5:(i+1)*r.size≤xs.length*r.size:=Nat.mul_le_mul_right _ hi;rw[Nat.add_mul,Nat.one_mul] at h5;rw[List.drop_append_of_le_length (by omega),List.take_append_of_le_length (by rw[List.length_drop];omega)]
   rw[h4];refine b3c hm (fun b hb hlt=>?_) h3';obtain⟨h5,h6⟩:=b7P hb;exact hh b hlt h6 h5
  ·rw[List.getElem?_append_right hi] at hy
   have h3:i=xs.length:=by
    have:=(List.getElem?_eq_some_iff.1 hy).1;simp at this;omega
   subst h3;simp at hy;subst hy
   have h4:((cells++cs).drop (xs.length*r.size)).take r.size=cs:=by
    rw[←hlen,List.drop_left,List.take_of_length_le (by omega)]
   rw[h4];rw[b8m] at hx;refine b3c hm (fun b hb hlt=>?_) hx;have h5:C≤b:=by simpa using hb
   exact hh b hlt (fun he=>by have:=hCv b he;omega) (by omega)
theorem c8y{α:Type}{cells:List α}{z0 z1 z2 z3 z4:α}(a b c d e:α){n:Nat}(h:cells.length=n):(((((cells++[z0,z1,z2,z3,z4]).set n a).set (n+1) b).set (n+2) c).set (n+3) d).set (n+4) e=cells++[a,b,c,d,e]:=by
 subst h;induction cells with
 | nil=>rfl
 | cons x xs ih=>simp
end Go.Proofs.YtmfjlcpjemccmaaGreatDoor
