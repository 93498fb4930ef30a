/- The document's reader of a command in plain words. Each lemma states its own conditions. -/
import Derived.Test.YtmfjlcpjemccmaaGreatDoorSbk10
namespace Go.Proofs.YtmfjlcpjemccmaaGreatDoor
open Go.RowKit
def b4U(w:World)(g:Nat)(lv:Value)(E:Nat)(x:TC×RS)(r:Ending)(w':World):Prop:=
 w.grownBy w' (some g)∧Rd w' g lv x.2.1 E x.2.2∧∃cs,r=.returned (.agg cs.toArray)∧tcR.R (low w.heap.size w') cs x.1
theorem b4U.mk{w:World}{g:Nat}{lv:Value}{E:Nat}{x:TC×RS}{w':World}{y:TC}{q:RS}{cs:List Value}(hx:x=(y,q))(hg:w.grownBy w' (some g))(hr:Rd w' g lv q.1 E q.2)(hl:tcR.R (low w.heap.size w') cs y):b4U w g lv E x (.returned (.agg cs.toArray)) w':=by
 subst hx;exact⟨hg,hr,cs,rfl,hl⟩
theorem b0k{P:Program}{id:Nat}{o1 o2:Oper}{Q:Exit→Act→World→Prop}{a:Act}{w:World}(ty:TypeId)(x y z:Operand)(hg1:o1.guard=none)(hg2:o2.guard=none)(ho1:o1.op=.load ty x)(ho2:o2.op=.store ty y z)
  (g r:Nat) (hx:a.eval x=.pointer (some ⟨g,0,none⟩)) (t:TypeId) (cs old:Array Value) (hb:Blk w g t cs) (hr:Blk w r t old) (hy:(a.put o1.dst (.agg cs)).eval y=.pointer (some ⟨r,0,none⟩)) (hz:(a.put o1.dst (.agg cs)).eval z=.agg cs)
  (d:TypeDesc) (hu:P.underlying ty=some d) (hd:(match d with | .struct _ | .array _ _=>true | _=>false)=true) (hi:(P.info? ty).map (·.size)=some cs.size) (hold:old.size=cs.size) (hone:cs.all (·.oneCell')=true)
  (h:Q .normal ((a.put o1.dst (.agg cs)).put o2.dst undef) (w.setRow r cs)):(Code.region id #[o1,o2] false).wp P Q a w:=
 wp_region_list (wpList_load_row hg1 ty x ho1 g hx t cs (0,0) d hb hu hd hi (wpList_store_row hg2 ty y z ho2 r cs hy hz t old hr hi hold hone (wpList_nil h)))
theorem c0z{w W:World}{g R:Nat}(h:w.grownBy W (some g))(hR:w.heap.size≤R)(us:Array Value):w.grownBy (W.setRow R us) (some g):=
 ⟨h.os,h.tape,h.output,by rw[setRow_size];exact h.size,fun x hx hne=>(setRow_other W R x us (by omega)).trans (h.block x hx hne)⟩
theorem Bld.row{w X W:World}{g:Nat}{lv:Value}{E:Nat}{r:RS}{t:TypeId}{R q:Nat}{zs cs:Array Value}(h:Bld w X W g lv E r t R q zs cs)(us:Array Value):Bld w X (W.setRow R us) g lv E r t R q us cs:=by
 obtain⟨h1,h2,h3,h4,h5,h6,h7⟩:=h;refine⟨(setRow_other W R g us (by omega)).trans h1,(setRow_other W R q us (by omega)).trans h2,setRow_heap W R zs us t (0,0) h3,c0z h4 (by omega) us,h5,by rw[setRow_size];exact h6,h7.tr (b5x rfl rfl rfl (by rw[setRow_size];exact Nat.le_refl _) fun k hk _=>setRow_other W R k us (by omega))⟩
section
variable {l:List Tok}{E p:Nat}{blk:RS→List TC×RS}
theorem b4i(h:tx l p false=b1R):b3O l E blk (p,false)=(.mk 5 (place l E p) emp emp b1P (b0K l E 60 (b0A l (tx l p false) (p,false))).1 [] [] [],b0A l b0s (b0K l E 60 (b0A l (tx l p false) (p,false))).2):=by
 unfold b3O;simp only[];rw[if_pos h]
theorem b4j(h:tx l p false=b1e):b3O l E blk (p,false)=(.mk 7 (place l E p) emp emp b1P (b0K l E 60 (b0A l (tx l p false) (p,false))).1 [] (blk (b0K l E 60 (b0A l (tx l p false) (p,false))).2).1 [],(blk (b0K l E 60 (b0A l (tx l p false) (p,false))).2).2):=by
 unfold b3O;simp only[];have h1:¬tx l p false=b1R:=fun e=>absurd (h.symm.trans e) (by decide);have h2:¬tx l p false=ifB:=fun e=>absurd (h.symm.trans e) (by decide);rw[if_neg h1,if_pos (Or.inr h),if_neg (fun e=>h2 e.1),if_pos h]
theorem b8T(h:tx l p false=ifB)(h3:tx l (blk (b0K l E 60 (b0A l (tx l p false) (p,false))).2).2.1 (blk (b0K l E 60 (b0A l (tx l p false) (p,false))).2).2.2≠b2e):b3O l E blk (p,false)=(.mk 6 (place l E p) emp emp b1P (b0K l E 60 (b0A l (tx l p false) (p,false))).1 [] (blk (b0K l E 60 (b0A l (tx l p false) (p,false))).2).1 [],(blk (b0K l E 60 (b0A l (tx l p false) (p,false))).2).2):=by
 unfold b3O;simp only[];have h1:¬tx l p false=b1R:=fun e=>absurd (h.symm.trans e) (by decide);have h2:¬tx l p false=b1e:=fun e=>absurd (h.symm.trans e) (by decide);rw[if_neg h1,if_pos (Or.inl h),if_neg (fun e=>h3 e.2),if_neg h2]
theorem b5T(h:tx l p false=ifB)(h3:tx l (blk (b0K l E 60 (b0A l (tx l p false) (p,false))).2).2.1 (blk (b0K l E 60 (b0A l (tx l p false) (p,false))).2).2.2=b2e):b3O l E blk (p,false)=(.mk 6 (place l E p) emp emp b1P (b0K l E 60 (b0A l (tx l p false) (p,false))).1 [] (blk (b0K l E 60 (b0A l (tx l p false) (p,false))).2).1 (blk (b0A l b2e (blk (b0K l E 60 (b0A l (tx l p false) (p,false))).2).2)).1,(blk (b0A l b2e (blk (b0K l E 60 (b0A l (tx l p false) (p,false))).2).2)).2):=by
 unfold b3O;simp only[];have h1:¬tx l p false=b1R:=fun e=>absurd (h.symm.trans e) (by decide);rw[if_neg h1,if_pos (Or.inl h),if_pos ⟨h,h3⟩]
variable (h1:tx l p false≠b1R)(h2:tx l p false≠ifB)(h3:tx l p false≠b1e)
include h1 h2 h3
theorem b8U(h4:tx l (b0D l (p,false)).2.1 (b0D l (p,false)).2.2=b1o):b3O l E blk (p,false)=(.mk 2 (place l E p) (b0D l (p,false)).1 emp (b0K l E 60 (b0A l b1o (b0D l (p,false)).2)).1 (b0K l E 60 (b0A l eqB (b0A l b4p (b0K l E 60 (b0A l b1o (b0D l (p,false)).2)).2))).1 [] [] [],b0A l b0s (b0K l E 60 (b0A l eqB (b0A l b4p (b0K l E 60 (b0A l b1o (b0D l (p,false)).2)).2))).2):=by
 unfold b3O;simp only[];rw[if_neg h1,if_neg (by rintro(e | e);exact h2 e;exact h3 e),if_pos h4]
theorem b6w(h4:tx l (b0D l (p,false)).2.1 (b0D l (p,false)).2.2≠b1o)(h5:tx l (b0A l eqB (b0D l (p,false)).2).1 (b0A l eqB (b0D l (p,false)).2).2=b2P):b3O l E blk (p,false)=(.mk 4 (place l E p) (b0D l (p,false)).1 emp b1P b1P [] [] [],b0A l b0s (b0A l b2P (b0A l eqB (b0D l (p,false)).2))):=by
 unfold b3O;simp only[];rw[if_neg h1,if_neg (by rintro(e | e);exact h2 e;exact h3 e),if_neg h4,if_pos h5]
theorem b6Y(h4:tx l (b0D l (p,false)).2.1 (b0D l (p,false)).2.2≠b1o)(h5:tx l (b0A l eqB (b0D l (p,false)).2).1 (b0A l eqB (b0D l (p,false)).2).2≠b2P)(h6:¬(b0H (tx l (b0A l eqB (b0D l (p,false)).2).1 (b0A l eqB (b0D l (p,false)).2).2)=true∧tx1 l (b0A l eqB (b0D l (p,false)).2)=b0T)) :
  b3O l E blk (p,false)=(.mk 1 (place l E p) (b0D l (p,false)).1 emp b1P (b0K l E 60 (b0A l eqB (b0D l (p,false)).2)).1 [] [] [],b0A l b0s (b0K l E 60 (b0A l eqB (b0D l (p,false)).2)).2):=by
 unfold b3O;simp only[];rw[if_neg h1,if_neg (by rintro(e | e);exact h2 e;exact h3 e),if_neg h4,if_neg h5,if_neg h6]
theorem b6v(h4:tx l (b0D l (p,false)).2.1 (b0D l (p,false)).2.2≠b1o)(h5:tx l (b0A l eqB (b0D l (p,false)).2).1 (b0A l eqB (b0D l (p,false)).2).2≠b2P)(h6:b0H (tx l (b0A l eqB (b0D l (p,false)).2).1 (b0A l eqB (b0D l (p,false)).2).2)=true∧tx1 l (b0A l eqB (b0D l (p,false)).2)=b0T) :
  b3O l E blk (p,false)=(.mk 3 (place l E p) (b0D l (p,false)).1 (b0D l (b0A l eqB (b0D l (p,false)).2)).1 b1P b1P (b2l l E (l.length+1) 0 (b0A l b0T (b0D l (b0A l eqB (b0D l (p,false)).2)).2)).1 [] [],
   b0A l b0s (b0A l b0Y (b2l l E (l.length+1) 0 (b0A l b0T (b0D l (b0A l eqB (b0D l (p,false)).2)).2)).2)):=by
 unfold b3O;simp only[];rw[if_neg h1,if_neg (by rintro(e | e);exact h2 e;exact h3 e),if_neg h4,if_neg h5,if_pos h6]
end
theorem c3q{l:List Tok}{q:RS}:q.1≤(opS l q).1:=by
 unfold opS;cases opD l q with
 | none=>exact Nat.le_refl _
 | some i=>exact b1t
theorem b2f{l:List Tok}{E:Nat}:∀(d:Nat) (q:RS),q.1≤(b0K l E d q).2.1
 | d,(p,f)=>by
  by_cases h1:tx l p f=b0T
  ·cases d with
   | zero=>rw[b3P h1];exact Nat.le_refl _
   | succ d =>
    rw[b2p h1];have a1:=b1t (l:=l) (s:=b0T) (q:=(p,f));have a2:=b2f (l:=l) (E:=E) d (b0A l b0T (p,f));have a3:=c3q (l:=l) (q:=(b0K l E d (b0A l b0T (p,f))).2);have a4:=b2f (l:=l) (E:=E) d (opS l (b0K l E d (b0A l b0T (p,f))).2);have a5:=b1t (l:=l) (s:=b0Y) (q:=(b0K l E d (opS l (b0K l E d (b0A l b0T (p,f))).2)).2);exact Nat.le_trans a1 (Nat.le_trans a2 (Nat.le_trans a3 (Nat.le_trans a4 a5)))
  ·by_cases h2:tx l p f=b1n
   ·rw[b2o h1 h2];exact Nat.le_trans b1t (Nat.le_trans (Nat.le_of_eq c0s.symm) b8r)
   ·by_cases h3:b3i (tx l p f)=true
    ·rw[b3X h1 h2 h3];exact b8r
    ·have h3:b3i (tx l p f)=false:=by simpa using h3
     by_cases h4:tx l (b0D l (p,f)).2.1 (b0D l (p,f)).2.2=b1o
     ·cases d with
      | zero=>rw[b2E h1 h2 h3 h4];exact b4I
      | succ d =>
       rw[b2n h1 h2 h3 h4];exact Nat.le_trans (b4I (q:=(p,f))) (Nat.le_trans b1t (Nat.le_trans (b2f d _) b1t))
     ·rw[b2K h1 h2 h3 h4];exact b4I
theorem b1y{l:List Tok}{q:RS}(hm:∀t∈l,t.text.size≤maxLen):(b0D l q).1.size≤maxLen:=by
 unfold b0D;split
 ·exact b1w hm
 ·exact Nat.zero_le _
def c6Q(w:World)(Q:Nat):Nat:=match w.cell? ⟨Q,14,none⟩ with
 | some v=>b7F v
 | none=>0
theorem b3I{w:World}{Q n:Nat}{v:Value}(h:w.cell? ⟨Q,14,none⟩=some v)(hn:b7F v=n):c6Q w Q=n:=by
 unfold c6Q;rw[h];exact hn
theorem b2I{l:List Tok}{E n k:Nat}{q:RS}(h:q.2=true∨tx l q.1 q.2=b0Y):b2l l E n k q=([],q):=by
 cases n with
 | zero=>rfl
 | succ n=>rw[b2l,if_pos h]
theorem b8R{l:List Tok}{E n k:Nat}{q:RS}(h1:q.2=false)(h2:tx l q.1 q.2≠b0Y):b2l l E (n+1) k q=((b0K l E 60 (if 0<k then b0A l b0e q else q)).1::(b2l l E n (k+1) (b1c (decide (tx l (b0K l E 60 (if 0<k then b0A l b0e q else q)).2.1 (b0K l E 60 (if 0<k then b0A l b0e q else q)).2.2≠b0e∧tx l (b0K l E 60 (if 0<k then b0A l b0e q else q)).2.1 (b0K l E 60 (if 0<k then b0A l b0e q else q)).2.2≠b0Y)) (b0K l E 60 (if 0<k then b0A l b0e q else q)).2)).1,
  (b2l l E n (k+1) (b1c (decide (tx l (b0K l E 60 (if 0<k then b0A l b0e q else q)).2.1 (b0K l E 60 (if 0<k then b0A l b0e q else q)).2.2≠b0e∧tx l (b0K l E 60 (if 0<k then b0A l b0e q else q)).2.1 (b0K l E 60 (if 0<k then b0A l b0e q else q)).2.2≠b0Y)) (b0K l E 60 (if 0<k then b0A l b0e q else q)).2)).2):=by
 rw[b2l,if_neg (by rintro(h | h);rw[h1] at h;cases h;exact h2 h)]
def c7S{α:Type}(r:Rep α)(e:TypeId)(B:Nat)(W:World)(v:Value)(xs:List α)(cells:List Value):Prop:=
 W.ownsRow B e r.size v xs.length cells∧∀i x,xs[i]? = some x→r.R (mask (c2m B v) W) ((cells.drop (i*r.size)).take r.size) x
theorem c7S.at_{α:Type}{r:Rep α}(hm:b9G r){e:TypeId}{B:Nat}{W W':World}{v:Value}{xs:List α}{cells:List Value}(h:c7S r e B W v xs cells){row:Option Nat}(hg:W.grownBy W' row)(hr:∀k,row=some k→k<B):c7S r e B W' v xs cells:=by
 obtain⟨h1,h2⟩:=h;refine⟨h1.kept hg ?_,fun i x hx=>b3c hm (fun b hb hlt=>⟨hb,hg.block b hlt fun he=>?_⟩) (h2 i x hx)⟩
 ·cases hv:v.ownBlock with
  | none=>exact Or.inl rfl
  | some k =>
   refine Or.inr fun he=>?_;have h3:=hr k he.symm;have h4:=(h1.lt k hv).1;omega
 ·have:=hr b he.symm;have:=(b7P hb).1;omega
theorem b2R:Elem Tryz.prog 47 49 5 64:=Elem.mk_ (z:=.agg #[.int .i64 0,.int .i64 0,.int .i64 0,.string ⟨#[]⟩,.slice none 0 0]) (by kernel_rfl) (by kernel_rfl) rfl (by decide)
theorem Bld.toR{w X W:World}{g:Nat}{lv:Value}{E:Nat}{r r':RS}{t:TypeId}{R q:Nat}{zs cs:Array Value}(h:Bld w X W g lv E r t R q zs cs)(he:r=r'):Bld w X W g lv E r' t R q zs cs:=he▸h
theorem Bld.app{w X W W':World}{g:Nat}{lv:Value}{E:Nat}{r:RS}{t:TypeId}{R q:Nat}{zs cs:Array Value}{o:Option Nat}(h:Bld w X W g lv E r t R q zs cs)(hg:W.grownBy W' o)(ho:∀k,o=some k→q+1≤k):Bld w W' W' g lv E r t R q zs cs:=by
 obtain⟨h1,h2,h3,h4,h5,h6,h7⟩:=h
 have hn:∀k,k≤q→some k≠o:=fun k hk e=>by
  have:=ho k e.symm;omega
 exact⟨Blk.grown h1 hg (hn g (by omega)),h2.grown hg (hn q (Nat.le_refl _)),h3.grown hg (hn R (by omega)),⟨hg.os.trans h4.os,hg.tape.trans h4.tape,hg.output.trans h4.output,Nat.le_trans h4.size hg.size,fun x hx hne=>(hg.block x (Nat.lt_of_lt_of_le hx h4.size) (hn x (by omega))).trans (h4.block x hx hne)⟩,h5,Nat.le_trans h6 hg.size,Bel.rfl_ _⟩
theorem b6c{l:List Tok}{E:Nat}(d:Nat)(q:RS):(b0K l E d q).2.2=true∨q.1<(b0K l E d q).2.1:=by
 obtain⟨p,f⟩:=q
 have hn:∀(s:ByteArray) (r:RS),(b0A l s r).2=true∨r.1<(b0A l s r).1:=fun s r=>by
  unfold b0A;by_cases h:r.2=true
  ·rw[if_pos h];exact Or.inl h
  ·rw[if_neg h];split
   ·exact Or.inr (Nat.lt_succ_self _)
   ·exact Or.inl rfl
 have hm:∀(r:RS),(b2w l r).2.2=true∨r.1<(b2w l r).2.1:=fun r=>by
  unfold b2w;split
  ·exact Or.inr (Nat.lt_succ_self _)
  ·exact Or.inl rfl
 have ha:(b0D l (p,f)).2.2=true∨p<(b0D l (p,f)).2.1:=by
  unfold b0D;split
  ·exact Or.inr (Nat.lt_succ_self _)
  ·exact Or.inl rfl
 by_cases h1:tx l p f=b0T
 ·cases d with
  | zero=>rw[b3P h1];exact Or.inl rfl
  | succ d =>
   rw[b2p h1];have a1:=b1t (l:=l) (s:=b0T) (q:=(p,f));have a2:=b2f (l:=l) (E:=E) d (b0A l b0T (p,f));have a3:=c3q (l:=l) (q:=(b0K l E d (b0A l b0T (p,f))).2);have a4:=b2f (l:=l) (E:=E) d (opS l (b0K l E d (b0A l b0T (p,f))).2);rcases hn b0Y (b0K l E d (opS l (b0K l E d (b0A l b0T (p,f))).2)).2 with h | h
   ·exact Or.inl h
   ·exact Or.inr (Nat.lt_of_le_of_lt (Nat.le_trans a1 (Nat.le_trans a2 (Nat.le_trans a3 a4))) h)
 ·by_cases h2:tx l p f=b1n
  ·rw[b2o h1 h2];rcases hm (b1c (decide (tx l (b0A l b1n (p,f)).1 (b0A l b1n (p,f)).2=b3C)) (b0A l b1n (p,f))) with h | h
   ·exact Or.inl h
   ·rw[c0s] at h;exact Or.inr (Nat.lt_of_le_of_lt (b1t (q:=(p,f))) h)
  ·by_cases h3:b3i (tx l p f)=true
   ·rw[b3X h1 h2 h3];exact hm (p,f)
   ·have h3:b3i (tx l p f)=false:=by simpa using h3
    by_cases h4:tx l (b0D l (p,f)).2.1 (b0D l (p,f)).2.2=b1o
    ·cases d with
     | zero=>rw[b2E h1 h2 h3 h4];exact Or.inl rfl
     | succ d =>
      rw[b2n h1 h2 h3 h4];have a1:=b4I (l:=l) (q:=(p,f));have a2:=b1t (l:=l) (s:=b1o) (q:=(b0D l (p,f)).2);have a3:=b2f (l:=l) (E:=E) d (b0A l b1o (b0D l (p,f)).2);rcases hn b4p (b0K l E d (b0A l b1o (b0D l (p,f)).2)).2 with h | h
      ·exact Or.inl h
      ·exact Or.inr (Nat.lt_of_le_of_lt (Nat.le_trans a1 (Nat.le_trans a2 a3)) h)
    ·rw[b2K h1 h2 h3 h4];exact ha
end Go.Proofs.YtmfjlcpjemccmaaGreatDoor
