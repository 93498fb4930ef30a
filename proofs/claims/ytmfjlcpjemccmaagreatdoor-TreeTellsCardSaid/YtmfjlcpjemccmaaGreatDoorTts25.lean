/- Lists with commas: what the program's parser reads is what the document's reads. The program's parser fills a command that it was handed: the parser's block and the command's change. Each lemma states its own conditions. -/
import Derived.Test.YtmfjlcpjemccmaaGreatDoorTts24
import Derived.Test.YtmfjlcpjemccmaaGreatDoorTts10
namespace Go.Proofs.YtmfjlcpjemccmaaGreatDoor
open Go.RowKit
/-- two readings of a list end alike, the bracket behind them taken -/
def ListSame {α : Type} (l : List Tok) (M A : List α × RS) : Prop := (M.2.2 = true → A.2 = M.2) ∧ (M.2.2 = false → needD l rparB A.2 = needD l rparB M.2 ∧ ((needD l rparB M.2).2 = false → A.1 = M.1))
section
variable {α : Type} {l : List Tok} {M A : List α × RS}
theorem ListSame.cons (x : α) (h : ListSame l M A) : ListSame l (x :: M.1, M.2) (x :: A.1, A.2) := ⟨h.1, fun e => ⟨(h.2 e).1, fun f => by rw [(h.2 e).2 f]⟩⟩
theorem ListSame.one (x : α) {r : RS} (h : r.2 = true) : ListSame l ([x], r) ([x], r) := ⟨fun _ => rfl, fun e => absurd (h.symm.trans e) (by decide)⟩
theorem ListSame.nil {r : RS} : ListSame (α := α) l ([], r) ([], r) := ⟨fun _ => rfl, fun _ => ⟨rfl, fun _ => rfl⟩⟩
theorem ListSame.off {xs : List α} {p : Nat} (h : tx l p false ≠ rparB) : ListSame l ([], (p, false)) (xs, (p, true)) :=
 ⟨(fun h => by cases h), fun _ => ⟨by rw [needD_no h, needD_bad], fun e => by rw [needD_no h] at e; cases e⟩⟩
end
theorem comma_rpar : commaB ≠ rparB := by decide
theorem failD_true {q : RS} : failD true q = (q.1, true) := rfl
theorem failD_false {q : RS} : failD false q = q := rfl
/-- behind an expression: on, or failed -/
def argE (l : List Tok) (q : RS) : RS := failD (decide (tx l q.1 q.2 ≠ commaB ∧ tx l q.1 q.2 ≠ rparB)) q
theorem argE_bad {l : List Tok} {q : RS} (h : q.2 = true) : argE l q = q := by
 obtain ⟨p, f⟩ := q
 obtain rfl : f = true := h
 unfold argE failD
 split <;> rfl
theorem argE_in {l : List Tok} {q : RS} (h : tx l q.1 q.2 = commaB ∨ tx l q.1 q.2 = rparB) : argE l q = q := by
 unfold argE
 rw [decide_eq_false (by rintro ⟨h1, h2⟩; exact h.elim h1 h2), failD_false]
theorem argE_off {l : List Tok} {p : Nat} (h1 : tx l p false ≠ commaB) (h2 : tx l p false ≠ rparB) : argE l (p, false) = (p, true) := by
 unfold argE
 rw [decide_eq_true ⟨h1, h2⟩, failD_true]
theorem argsD_go' {l : List Tok} {E n k : Nat} {q : RS} (h1 : q.2 = false) (h2 : tx l q.1 q.2 ≠ rparB) : argsD l E (n + 1) k q = ((exprD l E 60 (if 0 < k then needD l commaB q else q)).1 :: (argsD l E n (k + 1) (argE l (exprD l E 60 (if 0 < k then needD l commaB q else q)).2)).1, (argsD l E n (k + 1) (argE l (exprD l E 60 (if 0 < k then needD l commaB q else q)).2)).2) := argsD_go h1 h2
theorem args_more {l : List Tok} {E : Nat} (hok : ∀ t ∈ l, TokOk t) : ∀ (n m c p : Nat), p ≤ l.length → l.length - p < n → l.length - p < m → ListSame l (moreD l (fun k => exprD l E 60 (k, false)) n p) (argsD l E m (c + 1) (argE l (p, false)))
 | 0, _, _, _, _, h, _ => absurd h (Nat.not_lt_zero _)
 | _, 0, _, _, _, _, h => absurd h (Nat.not_lt_zero _)
 | n + 1, m + 1, c, p, hp, hn, hm => by
  by_cases h1 : tx l p false = rparB
  ·rw [moreD_stop (fun e => comma_rpar (e.symm.trans h1)), argE_in (Or.inr h1), argsD_stop (q := (p, false)) (Or.inr h1)]
   exact .nil
  ·by_cases h2 : tx l p false = commaB
   ·have hlt := tx_lt (l := l) (p := p) (f := false) (by rw [h2]; decide)
    have hg := exprD_G (E := E) hok 60 (p + 1, false)
    rw [argE_in (q := (p, false)) (Or.inl h2), argsD_go' (q := (p, false)) rfl h1, if_pos (Nat.succ_pos c), needD_yes h2]
    cases he : (exprD l E 60 (p + 1, false)).2.2 with
    | true =>
     rw [moreD_bad h2 he, argE_bad he, argsD_stop (Or.inl he)]
     exact .one _ he
    | false =>
     rw [moreD_go h2 he]
     refine .cons _ ?_
     have := args_more (E := E) hok n m (c + 1) (exprD l E 60 (p + 1, false)).2.1 (hg.2.1 hlt) (by have := hg.1; dsimp only at this; omega) (by have := hg.1; dsimp only at this; omega)
     rwa [show ((exprD l E 60 (p + 1, false)).2.1, false) = (exprD l E 60 (p + 1, false)).2 from (rs_good he).symm] at this
   ·rw [moreD_stop h2, argE_off h2 h1, argsD_stop (Or.inl rfl)]
    exact .off h1
theorem args_list {l : List Tok} {E : Nat} (hok : ∀ t ∈ l, TokOk t) (p : Nat) (hp : p ≤ l.length) : ListSame l (listD l rparB (fun k => exprD l E 60 (k, false)) (l.length + 1) p) (argsD l E (l.length + 1) 0 (p, false)) := by
 unfold listD
 by_cases h1 : tx l p false = rparB
 ·rw [if_pos h1, argsD_stop (q := (p, false)) (Or.inr h1)]
  exact .nil
 ·have hg := exprD_G (E := E) hok 60 (p, false)
  rw [if_neg h1, argsD_go' (q := (p, false)) rfl h1, if_neg (Nat.lt_irrefl 0)]
  cases he : (exprD l E 60 (p, false)).2.2 with
  | true =>
   rw [if_pos rfl, argE_bad he, argsD_stop (Or.inl he)]
   exact .one _ he
  | false =>
   rw [if_neg (by decide)]
   refine .cons _ ?_
   have hs : p < (exprD l E 60 (p, false)).2.1 := (exprD_gt (l := l) (E := E) 60 (p, false)).resolve_left (by rw [he]; decide)
   have hq := hg.2.1 hp
   have := args_more (E := E) hok (l.length + 1) l.length 0 (exprD l E 60 (p, false)).2.1 hq (by omega) (by omega)
   rwa [show ((exprD l E 60 (p, false)).2.1, false) = (exprD l E 60 (p, false)).2 from (rs_good he).symm] at this
theorem paramsD_go' {l : List Tok} {n k : Nat} {q : RS} (h1 : q.2 = false) (h2 : tx l q.1 q.2 ≠ rparB) : paramsD l (n + 1) k q = ((nameD l (if 0 < k then needD l commaB q else q)).1 :: (paramsD l n (k + 1) (nameD l (if 0 < k then needD l commaB q else q)).2).1, (paramsD l n (k + 1) (nameD l (if 0 < k then needD l commaB q else q)).2).2) := by
 rw [paramsD, if_neg (by rintro (h | h); exact absurd (h1.symm.trans h) (by decide); exact h2 h)]
theorem params_more {l : List Tok} : ∀ (n m c p : Nat), p ≤ l.length → l.length - p < n → l.length - p < m → ListSame l (moreD l (fun k => nameD l (k, false)) n p) (paramsD l m (c + 1) (p, false))
 | 0, _, _, _, _, h, _ => absurd h (Nat.not_lt_zero _)
 | _, 0, _, _, _, _, h => absurd h (Nat.not_lt_zero _)
 | n + 1, m + 1, c, p, hp, hn, hm => by
  by_cases h1 : tx l p false = rparB
  ·rw [moreD_stop (fun e => comma_rpar (e.symm.trans h1)), paramsD_stop (q := (p, false)) (Or.inr h1)]
   exact .nil
  ·rw [paramsD_go' (q := (p, false)) rfl h1, if_pos (Nat.succ_pos c)]
   by_cases h2 : tx l p false = commaB
   ·have hlt := tx_lt (l := l) (p := p) (f := false) (by rw [h2]; decide)
    have hg := nameD_G (l := l) (p + 1, false)
    rw [needD_yes h2]
    cases he : (nameD l (p + 1, false)).2.2 with
    | true =>
     rw [moreD_bad h2 he, paramsD_stop (Or.inl he)]
     exact .one _ he
    | false =>
     rw [moreD_go h2 he]
     refine .cons _ ?_
     have := params_more n m (c + 1) (nameD l (p + 1, false)).2.1 (hg.2.1 hlt) (by have := hg.1; dsimp only at this; omega) (by have := hg.1; dsimp only at this; omega)
     rwa [show ((nameD l (p + 1, false)).2.1, false) = (nameD l (p + 1, false)).2 from (rs_good he).symm] at this
   ·rw [moreD_stop h2, needD_no h2, nameD_bad, paramsD_stop (Or.inl rfl)]
    exact .off h1
theorem params_list {l : List Tok} (p : Nat) (hp : p ≤ l.length) : ListSame l (listD l rparB (fun k => nameD l (k, false)) (l.length + 1) p) (paramsD l (l.length + 1) 0 (p, false)) := by
 unfold listD
 by_cases h1 : tx l p false = rparB
 ·rw [if_pos h1, paramsD_stop (q := (p, false)) (Or.inr h1)]
  exact .nil
 ·rw [if_neg h1, paramsD_go' (q := (p, false)) rfl h1, if_neg (Nat.lt_irrefl 0)]
  have hg := nameD_G (l := l) (p, false)
  cases he : (nameD l (p, false)).2.2 with
  | true =>
   rw [if_pos rfl, paramsD_stop (Or.inl he)]
   exact .one _ he
  | false =>
   rw [if_neg (by decide)]
   refine .cons _ ?_
   have hs : p < (nameD l (p, false)).2.1 := (nameD_gt (l := l) (p, false)).resolve_left (by rw [he]; decide)
   have hq := hg.2.1 hp
   have := params_more (l := l) (l.length + 1) l.length 0 (nameD l (p, false)).2.1 hq (by omega) (by omega)
   rwa [show ((nameD l (p, false)).2.1, false) = (nameD l (p, false)).2 from (rs_good he).symm] at this
/-- all stays but two blocks -/
structure G2 (w w' : World) (g Q : Nat) : Prop where
 os : w'.os = w.os
 tape : w'.tape = w.tape
 output : w'.output = w.output
 size : w.heap.size ≤ w'.heap.size
 block : ∀ k, k < w.heap.size → k ≠ g → k ≠ Q → w'.heap[k]? = w.heap[k]?
section
variable {w W W' : World} {g Q : Nat}
theorem G2.refl (w : World) (g Q : Nat) : G2 w w g Q := ⟨rfl, rfl, rfl, Nat.le_refl _, fun _ _ _ _ => rfl⟩
theorem G2.grow (h : G2 w W g Q) {o : Option Nat} (k : W.grownBy W' o) (ho : ∀ x, o = some x → x = g ∨ x = Q ∨ w.heap.size ≤ x) : G2 w W' g Q :=
 ⟨k.os.trans h.os, k.tape.trans h.tape, k.output.trans h.output, Nat.le_trans h.size k.size, fun x hx h1 h2 => (k.block x (Nat.lt_of_lt_of_le hx h.size) (fun e => by
  rcases ho x e.symm with h3 | h3 | h3
  ·exact h1 h3
  ·exact h2 h3
  ·omega)).trans (h.block x hx h1 h2)⟩
theorem G2.keep (h : G2 w W g Q) (hb : Bel W W') : G2 w W' g Q := h.grow (hb.grown none) fun _ e => by cases e
theorem G2.par (h : G2 w W g Q) (k : W.grownBy W' (some g)) : G2 w W' g Q := h.grow k fun _ e => Or.inl (Option.some.inj e).symm
theorem G2.cmd (h : G2 w W g Q) (k : W.grownBy W' (some Q)) : G2 w W' g Q := h.grow k fun _ e => Or.inr (Or.inl (Option.some.inj e).symm)
theorem G2.bel (h : G2 w W g Q) {w0 : World} (h0 : Bel w0 w) (hg : w0.heap.size ≤ g) (hQ : w0.heap.size ≤ Q) : Bel w0 W :=
 ⟨h.os.trans h0.os, h.tape.trans h0.tape, h.output.trans h0.output, Nat.le_trans h0.size h.size, fun k hk => (h.block k (Nat.lt_of_lt_of_le hk h0.size) (by omega) (by omega)).trans (h0.block k hk)⟩
theorem G2.low (h : G2 W W' g Q) {B : Nat} (hg : g < B) (hQ : Q < B) : Bel (low B W) (low B W') := low_bel h.os h.tape h.output h.size fun k hk hlt => h.block k hlt (by omega) (by omega)
theorem G2.blk (h : G2 W W' g Q) {b : Nat} {t : TypeId} {cs : Array Value} (hb : Blk W b t cs) (h1 : b ≠ g) (h2 : b ≠ Q) : Blk W' b t cs := (h.block b hb.lt h1 h2).trans hb
/-- what is built is filled by a call -/
theorem BlP.g2 {X : World} {lv : Value} {E p p' : Nat} {t : TypeId} {R q : Nat} {zs cs cs' : Array Value} (h : BlP w X W g lv E p t R q zs cs) (k : G2 W W' g q) (hp : Ps W' g lv p' E) (hq : Blk W' q t cs') : BlP w X W' g lv E p' t R q zs cs' := by
 obtain ⟨h1, h2, h3, h4, h5, h6, h7⟩ := h
 refine ⟨hp, hq, k.blk h3 (by omega) (by omega), ⟨k.os.trans h4.os, k.tape.trans h4.tape, k.output.trans h4.output, Nat.le_trans h4.size k.size, fun x hx hne => (k.block x (Nat.lt_of_lt_of_le hx h4.size) (fun e => hne (by rw [e])) (by omega)).trans (h4.block x hx hne)⟩, h5, Nat.le_trans h6 k.size, h7.tr (k.low (by omega) (by omega))⟩
end
/-- the parser, the command's block; and what lies in new memory stays as it was in X -/
def Bec (w X W : World) (g : Nat) (lv : Value) (E p Q : Nat) (cs : Array Value) : Prop :=
 Ps W g lv p E ∧ Blk W Q 53 cs ∧ G2 w W g Q ∧ (g < w.heap.size ∧ Q < w.heap.size ∧ g ≠ Q) ∧ Bel (low w.heap.size X) (low w.heap.size W)
section
variable {w X W W' : World} {g : Nat} {lv : Value} {E p p' Q : Nat} {cs cs' : Array Value}
theorem Bec.start (h : Ps w g lv p E) (hq : Blk w Q 53 cs) (hne : g ≠ Q) : Bec w w w g lv E p Q cs := ⟨h, hq, G2.refl _ _ _, ⟨h.lt, hq.lt, hne⟩, Bel.rfl_ _⟩
theorem Bec.keep (h : Bec w X W g lv E p Q cs) (hb : Bel W W') : Bec w X W' g lv E p Q cs := ⟨h.1.keep hb, h.2.1.keep hb, h.2.2.1.keep hb, h.2.2.2.1, h.2.2.2.2.tr (low_belB hb)⟩
theorem Bec.grown (h : Bec w X W g lv E p Q cs) (hg : W.grownBy W' (some g)) (hp : Ps W' g lv p' E) : Bec w X W' g lv E p' Q cs :=
 ⟨hp, h.2.1.grown hg (by have := h.2.2.2.1.2.2; simp; omega), h.2.2.1.par hg, h.2.2.2.1, h.2.2.2.2.tr (low_grown hg h.2.2.2.1.1)⟩
theorem Bec.put (h : Bec w X W g lv E p Q cs) (i : Nat) (u : Value) : Bec w X (W.setCell ⟨Q, i, none⟩ u) g lv E p Q (cs.setIfInBounds i u) := by
 obtain ⟨h1, h2, h3, h4, h5⟩ := h
 exact ⟨Blk.far_ h1 h4.2.2 i u, h2.set_ i u, h3.cmd (grownS_one W Q i u), h4, h5.tr (low_set W u h4.2.1)⟩
theorem Bec.at_ (h : Bec w X W g lv E p Q cs) : Bec w X (W.setCell ⟨g, 1, none⟩ (.int .i64 ((p : Int) + 1))) g lv E (p + 1) Q cs := h.grown (grownS_one W g 1 _) (h.1.at_ (by omega))
theorem Bec.to (h : Bec w X W g lv E p Q cs) (he : cs = cs') : Bec w X W g lv E p Q cs' := he ▸ h
theorem Bec.fresh (h : Bec w X W g lv E p Q cs) : Bec w W W g lv E p Q cs := ⟨h.1, h.2.1, h.2.2.1, h.2.2.2.1, Bel.rfl_ _⟩
theorem Bec.cell (h : Bec w X W g lv E p Q cs) (i : Nat) {v : Value} (hv : cs[i]? = some v) : W.cell? ⟨Q, i, none⟩ = some v := h.2.1.cell hv
theorem Bec.frozen (h : Bec w X W g lv E p Q cs) (i : Nat) : W.frozen? ⟨Q, i, none⟩ = false := h.2.1.frozen i
theorem Bec.go (h : Bec w X W g lv E p Q cs) : W.cell? ⟨g, 1, none⟩ = some (.int .i64 p) ∧ W.frozen? ⟨g, 1, none⟩ = false := ⟨h.1.go.2.1, h.1.go.2.2.2⟩
theorem Bec.size (h : Bec w X W g lv E p Q cs) : w.heap.size ≤ W.heap.size := h.2.2.1.size
theorem Bec.grew (h : Bec w X W g lv E p Q cs) : G2 w W g Q := h.2.2.1
theorem Bec.lt (h : Bec w X W g lv E p Q cs) : g < w.heap.size ∧ Q < w.heap.size ∧ g ≠ Q := h.2.2.2.1
theorem Bec.low_ (h : Bec w X W g lv E p Q cs) : Bel (low w.heap.size X) (low w.heap.size W) := h.2.2.2.2
theorem Bec.bel (h : Bec w X W g lv E p Q cs) {w0 : World} (h0 : Bel w0 w) (hg : w0.heap.size ≤ g) (hQ : w0.heap.size ≤ Q) : Bel w0 W := h.2.2.1.bel h0 hg hQ
end
/-- what such a call hands back -/
def BecRes (w : World) (g : Nat) (lv : Value) (l : List Tok) (E Q : Nat) (x : TC × RS) (r : Ending) (w' : World) : Prop :=
 G2 w w' g Q ∧ (x.2.2 = true → r = failV (place l E x.2.1)) ∧ (x.2.2 = false → r = .returned (.tuple #[]) ∧ Ps w' g lv x.2.1 E ∧ ∃ cs, Blk w' Q 53 cs.toArray ∧ tcR.R (low w.heap.size w') cs x.1)
section
variable {w w' : World} {g : Nat} {lv : Value} {l : List Tok} {E Q : Nat} {x : TC × RS}
theorem BecRes.mkBad {p : Nat} (hx : x.2 = (p, true)) (h : G2 w w' g Q) : BecRes w g lv l E Q x (failV (place l E p)) w' := by
 refine ⟨h, fun _ => by rw [hx], fun h => ?_⟩
 rw [hx] at h
 cases h
theorem BecRes.mkGood {p : Nat} {c : TC} {cs : List Value} {W0 : World} (hx : x = (c, (p, false))) (h : Bec w W0 w' g lv E p Q cs.toArray) (hc : tcR.R (low w.heap.size w') cs c) : BecRes w g lv l E Q x (.returned (.tuple #[])) w' := by
 subst hx
 exact ⟨h.grew, (fun h => by cases h), fun _ => ⟨rfl, h.1, cs, h.2.1, hc⟩⟩
end
/-- a command that is neither print nor one with blocks, without its last sign -/
def becD (l : List Tok) (E : Nat) (A0 : Int) (r : RS) : TC × RS :=
 let n := nameD l r
 if tx l n.2.1 n.2.2 = lsqB then
  let i := exprD l E 60 (needD l lsqB n.2)
  let e := exprD l E 60 (needD l eqB (needD l rsqB i.2))
  (.mk 2 A0 n.1 emp i.1 e.1 [] [] [], e.2)
 else
  let q := needD l eqB n.2
  if tx l q.1 q.2 = readB then (.mk 4 A0 n.1 emp zeroE zeroE [] [] [], needD l readB q)
  else if isName (tx l q.1 q.2) = true ∧ tx1 l q = lparB then
   let o := nameD l q
   let m := argsD l E (l.length + 1) 0 (needD l lparB o.2)
   (.mk 3 A0 n.1 o.1 zeroE zeroE m.1 [] [], needD l rparB m.2)
  else
   let e := exprD l E 60 q
   (.mk 1 A0 n.1 emp zeroE e.1 [] [] [], e.2)
theorem cmdD_bec {l : List Tok} {E : Nat} {blk : RS → List TC × RS} {p : Nat} (h1 : tx l p false ≠ printB) (h2 : tx l p false ≠ ifB) (h3 : tx l p false ≠ whileB) :
  cmdD l E blk (p, false) = ((becD l E (place l E p) (p, false)).1, needD l semiB (becD l E (place l E p) (p, false)).2) := by
 unfold cmdD becD
 simp only []
 rw [if_neg h1, if_neg (by rintro (e | e); exact h2 e; exact h3 e)]
 split
 ·rfl
 ·split
  ·rfl
  ·split
   ·rfl
   ·rfl
end Go.Proofs.YtmfjlcpjemccmaaGreatDoor
