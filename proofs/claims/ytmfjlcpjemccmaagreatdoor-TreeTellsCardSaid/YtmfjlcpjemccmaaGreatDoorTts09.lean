/- The document's reader of a command in plain words. The document's reader of a call: plain words. Each lemma states its own conditions. -/
import Derived.Test.YtmfjlcpjemccmaaGreatDoorTts08
namespace Go.Proofs.YtmfjlcpjemccmaaGreatDoor
open Go.RowKit
/-- a struct is read whole, and stored whole elsewhere -/
theorem wp_move_row {P : Program} {id : Nat} {o1 o2 : Oper} {Q : Exit → Act → World → Prop} {a : Act} {w : World} (ty : TypeId) (x y z : Operand) (hg1 : o1.guard = none) (hg2 : o2.guard = none) (ho1 : o1.op = .load ty x) (ho2 : o2.op = .store ty y z)
  (g r : Nat) (hx : a.eval x = .pointer (some ⟨g, 0, none⟩)) (t : TypeId) (cs old : Array Value) (hb : Blk w g t cs) (hr : Blk w r t old) (hy : (a.put o1.dst (.agg cs)).eval y = .pointer (some ⟨r, 0, none⟩)) (hz : (a.put o1.dst (.agg cs)).eval z = .agg cs)
  (d : TypeDesc) (hu : P.underlying ty = some d) (hd : (match d with | .struct _ | .array _ _ => true | _ => false) = true) (hi : (P.info? ty).map (·.size) = some cs.size) (hold : old.size = cs.size) (hone : cs.all (·.oneCell') = true)
  (h : Q .normal ((a.put o1.dst (.agg cs)).put o2.dst undef) (w.setRow r cs)) : (Code.region id #[o1, o2] false).wp P Q a w :=
 wp_region_list (wpList_load_row hg1 ty x ho1 g hx t cs (0, 0) d hb hu hd hi (wpList_store_row hg2 ty y z ho2 r cs hy hz t old hr hi hold hone (wpList_nil h)))
theorem grownRow {w W : World} {g R : Nat} (h : w.grownBy W (some g)) (hR : w.heap.size ≤ R) (us : Array Value) : w.grownBy (W.setRow R us) (some g) :=
 ⟨h.os, h.tape, h.output, by rw [setRow_size]; exact h.size, fun x hx hne => (setRow_other W R x us (by omega)).trans (h.block x hx hne)⟩
section
variable {l : List Tok} {E p : Nat} {blk : RS → List TC × RS}
theorem cmdD_print (h : tx l p false = printB) : cmdD l E blk (p, false) = (.mk 5 (place l E p) emp emp zeroE (exprD l E 60 (needD l (tx l p false) (p, false))).1 [] [] [], needD l semiB (exprD l E 60 (needD l (tx l p false) (p, false))).2) := by
 unfold cmdD
 simp only []
 rw [if_pos h]
theorem cmdD_while (h : tx l p false = whileB) : cmdD l E blk (p, false) = (.mk 7 (place l E p) emp emp zeroE (exprD l E 60 (needD l (tx l p false) (p, false))).1 [] (blk (exprD l E 60 (needD l (tx l p false) (p, false))).2).1 [], (blk (exprD l E 60 (needD l (tx l p false) (p, false))).2).2) := by
 unfold cmdD
 simp only []
 have h1 : ¬ tx l p false = printB := fun e => absurd (h.symm.trans e) (by decide)
 have h2 : ¬ tx l p false = ifB := fun e => absurd (h.symm.trans e) (by decide)
 rw [if_neg h1, if_pos (Or.inr h), if_neg (fun e => h2 e.1), if_pos h]
theorem cmdD_if (h : tx l p false = ifB) (h3 : tx l (blk (exprD l E 60 (needD l (tx l p false) (p, false))).2).2.1 (blk (exprD l E 60 (needD l (tx l p false) (p, false))).2).2.2 ≠ elseB) : cmdD l E blk (p, false) = (.mk 6 (place l E p) emp emp zeroE (exprD l E 60 (needD l (tx l p false) (p, false))).1 [] (blk (exprD l E 60 (needD l (tx l p false) (p, false))).2).1 [], (blk (exprD l E 60 (needD l (tx l p false) (p, false))).2).2) := by
 unfold cmdD
 simp only []
 have h1 : ¬ tx l p false = printB := fun e => absurd (h.symm.trans e) (by decide)
 have h2 : ¬ tx l p false = whileB := fun e => absurd (h.symm.trans e) (by decide)
 rw [if_neg h1, if_pos (Or.inl h), if_neg (fun e => h3 e.2), if_neg h2]
theorem cmdD_else (h : tx l p false = ifB) (h3 : tx l (blk (exprD l E 60 (needD l (tx l p false) (p, false))).2).2.1 (blk (exprD l E 60 (needD l (tx l p false) (p, false))).2).2.2 = elseB) : cmdD l E blk (p, false) = (.mk 6 (place l E p) emp emp zeroE (exprD l E 60 (needD l (tx l p false) (p, false))).1 [] (blk (exprD l E 60 (needD l (tx l p false) (p, false))).2).1 (blk (needD l elseB (blk (exprD l E 60 (needD l (tx l p false) (p, false))).2).2)).1, (blk (needD l elseB (blk (exprD l E 60 (needD l (tx l p false) (p, false))).2).2)).2) := by
 unfold cmdD
 simp only []
 have h1 : ¬ tx l p false = printB := fun e => absurd (h.symm.trans e) (by decide)
 rw [if_neg h1, if_pos (Or.inl h), if_pos ⟨h, h3⟩]
variable (h1 : tx l p false ≠ printB) (h2 : tx l p false ≠ ifB) (h3 : tx l p false ≠ whileB)
include h1 h2 h3
theorem cmdD_put (h4 : tx l (nameD l (p, false)).2.1 (nameD l (p, false)).2.2 = lsqB) : cmdD l E blk (p, false) = (.mk 2 (place l E p) (nameD l (p, false)).1 emp (exprD l E 60 (needD l lsqB (nameD l (p, false)).2)).1 (exprD l E 60 (needD l eqB (needD l rsqB (exprD l E 60 (needD l lsqB (nameD l (p, false)).2)).2))).1 [] [] [], needD l semiB (exprD l E 60 (needD l eqB (needD l rsqB (exprD l E 60 (needD l lsqB (nameD l (p, false)).2)).2))).2) := by
 unfold cmdD
 simp only []
 rw [if_neg h1, if_neg (by rintro (e | e); exact h2 e; exact h3 e), if_pos h4]
theorem cmdD_read (h4 : tx l (nameD l (p, false)).2.1 (nameD l (p, false)).2.2 ≠ lsqB) (h5 : tx l (needD l eqB (nameD l (p, false)).2).1 (needD l eqB (nameD l (p, false)).2).2 = readB) : cmdD l E blk (p, false) = (.mk 4 (place l E p) (nameD l (p, false)).1 emp zeroE zeroE [] [] [], needD l semiB (needD l readB (needD l eqB (nameD l (p, false)).2))) := by
 unfold cmdD
 simp only []
 rw [if_neg h1, if_neg (by rintro (e | e); exact h2 e; exact h3 e), if_neg h4, if_pos h5]
theorem cmdD_set (h4 : tx l (nameD l (p, false)).2.1 (nameD l (p, false)).2.2 ≠ lsqB) (h5 : tx l (needD l eqB (nameD l (p, false)).2).1 (needD l eqB (nameD l (p, false)).2).2 ≠ readB) (h6 : ¬ (isName (tx l (needD l eqB (nameD l (p, false)).2).1 (needD l eqB (nameD l (p, false)).2).2) = true ∧ tx1 l (needD l eqB (nameD l (p, false)).2) = lparB)) :
  cmdD l E blk (p, false) = (.mk 1 (place l E p) (nameD l (p, false)).1 emp zeroE (exprD l E 60 (needD l eqB (nameD l (p, false)).2)).1 [] [] [], needD l semiB (exprD l E 60 (needD l eqB (nameD l (p, false)).2)).2) := by
 unfold cmdD
 simp only []
 rw [if_neg h1, if_neg (by rintro (e | e); exact h2 e; exact h3 e), if_neg h4, if_neg h5, if_neg h6]
theorem cmdD_call (h4 : tx l (nameD l (p, false)).2.1 (nameD l (p, false)).2.2 ≠ lsqB) (h5 : tx l (needD l eqB (nameD l (p, false)).2).1 (needD l eqB (nameD l (p, false)).2).2 ≠ readB) (h6 : isName (tx l (needD l eqB (nameD l (p, false)).2).1 (needD l eqB (nameD l (p, false)).2).2) = true ∧ tx1 l (needD l eqB (nameD l (p, false)).2) = lparB) :
  cmdD l E blk (p, false) = (.mk 3 (place l E p) (nameD l (p, false)).1 (nameD l (needD l eqB (nameD l (p, false)).2)).1 zeroE zeroE (argsD l E (l.length + 1) 0 (needD l lparB (nameD l (needD l eqB (nameD l (p, false)).2)).2)).1 [] [],
   needD l semiB (needD l rparB (argsD l E (l.length + 1) 0 (needD l lparB (nameD l (needD l eqB (nameD l (p, false)).2)).2)).2)) := by
 unfold cmdD
 simp only []
 rw [if_neg h1, if_neg (by rintro (e | e); exact h2 e; exact h3 e), if_neg h4, if_neg h5, if_pos h6]
end
theorem opS_ge {l : List Tok} {q : RS} : q.1 ≤ (opS l q).1 := by
 unfold opS
 cases opD l q with
 | none => exact Nat.le_refl _
 | some i => exact needD_ge
theorem exprD_ge {l : List Tok} {E : Nat} : ∀ (d : Nat) (q : RS), q.1 ≤ (exprD l E d q).2.1
 | d, (p, f) => by
  by_cases h1 : tx l p f = lparB
  ·cases d with
   | zero => rw [exprD_deep h1]; exact Nat.le_refl _
   | succ d =>
    rw [exprD_pair h1]
    have a1 := needD_ge (l := l) (s := lparB) (q := (p, f))
    have a2 := exprD_ge (l := l) (E := E) d (needD l lparB (p, f))
    have a3 := opS_ge (l := l) (q := (exprD l E d (needD l lparB (p, f))).2)
    have a4 := exprD_ge (l := l) (E := E) d (opS l (exprD l E d (needD l lparB (p, f))).2)
    have a5 := needD_ge (l := l) (s := rparB) (q := (exprD l E d (opS l (exprD l E d (needD l lparB (p, f))).2)).2)
    exact Nat.le_trans a1 (Nat.le_trans a2 (Nat.le_trans a3 (Nat.le_trans a4 a5)))
  ·by_cases h2 : tx l p f = dashB
   ·rw [exprD_dash h1 h2]
    exact Nat.le_trans needD_ge (Nat.le_trans (Nat.le_of_eq failD_ge.symm) numD_ge)
   ·by_cases h3 : digD (tx l p f) = true
    ·rw [exprD_num h1 h2 h3]
     exact numD_ge
    ·have h3 : digD (tx l p f) = false := by simpa using h3
     by_cases h4 : tx l (nameD l (p, f)).2.1 (nameD l (p, f)).2.2 = lsqB
     ·cases d with
      | zero => rw [exprD_celldeep h1 h2 h3 h4]; exact nameD_ge
      | succ d =>
       rw [exprD_cell h1 h2 h3 h4]
       exact Nat.le_trans (nameD_ge (q := (p, f))) (Nat.le_trans needD_ge (Nat.le_trans (exprD_ge d _) needD_ge))
     ·rw [exprD_name h1 h2 h3 h4]
      exact nameD_ge
theorem name_size {l : List Tok} {q : RS} (hm : ∀ t ∈ l, t.text.size ≤ maxLen) : (nameD l q).1.size ≤ maxLen := by
 unfold nameD
 split
 ·exact tok_max hm
 ·exact Nat.zero_le _
theorem argsD_stop {l : List Tok} {E n k : Nat} {q : RS} (h : q.2 = true ∨ tx l q.1 q.2 = rparB) : argsD l E n k q = ([], q) := by
 cases n with
 | zero => rfl
 | succ n => rw [argsD, if_pos h]
theorem argsD_go {l : List Tok} {E n k : Nat} {q : RS} (h1 : q.2 = false) (h2 : tx l q.1 q.2 ≠ rparB) : argsD l E (n + 1) k q = ((exprD l E 60 (if 0 < k then needD l commaB q else q)).1 :: (argsD l E n (k + 1) (failD (decide (tx l (exprD l E 60 (if 0 < k then needD l commaB q else q)).2.1 (exprD l E 60 (if 0 < k then needD l commaB q else q)).2.2 ≠ commaB ∧ tx l (exprD l E 60 (if 0 < k then needD l commaB q else q)).2.1 (exprD l E 60 (if 0 < k then needD l commaB q else q)).2.2 ≠ rparB)) (exprD l E 60 (if 0 < k then needD l commaB q else q)).2)).1,
  (argsD l E n (k + 1) (failD (decide (tx l (exprD l E 60 (if 0 < k then needD l commaB q else q)).2.1 (exprD l E 60 (if 0 < k then needD l commaB q else q)).2.2 ≠ commaB ∧ tx l (exprD l E 60 (if 0 < k then needD l commaB q else q)).2.1 (exprD l E 60 (if 0 < k then needD l commaB q else q)).2.2 ≠ rparB)) (exprD l E 60 (if 0 < k then needD l commaB q else q)).2)).2) := by
 rw [argsD, if_neg (by rintro (h | h); rw [h1] at h; cases h; exact h2 h)]
theorem elTE : Elem Tryz.prog 47 49 5 64 := Elem.mk_ (z := .agg #[.int .i64 0, .int .i64 0, .int .i64 0, .string ⟨#[]⟩, .slice none 0 0]) (by kernel_rfl) (by kernel_rfl) rfl (by decide)
/-- an expression that is read takes a token -/
theorem exprD_gt {l : List Tok} {E : Nat} (d : Nat) (q : RS) : (exprD l E d q).2.2 = true ∨ q.1 < (exprD l E d q).2.1 := by
 obtain ⟨p, f⟩ := q
 have hn : ∀ (s : ByteArray) (r : RS), (needD l s r).2 = true ∨ r.1 < (needD l s r).1 := fun s r => by
  unfold needD
  by_cases h : r.2 = true
  ·rw [if_pos h]; exact Or.inl h
  ·rw [if_neg h]
   split
   ·exact Or.inr (Nat.lt_succ_self _)
   ·exact Or.inl rfl
 have hm : ∀ (r : RS), (numD l r).2.2 = true ∨ r.1 < (numD l r).2.1 := fun r => by
  unfold numD
  split
  ·exact Or.inr (Nat.lt_succ_self _)
  ·exact Or.inl rfl
 have ha : (nameD l (p, f)).2.2 = true ∨ p < (nameD l (p, f)).2.1 := by
  unfold nameD
  split
  ·exact Or.inr (Nat.lt_succ_self _)
  ·exact Or.inl rfl
 by_cases h1 : tx l p f = lparB
 ·cases d with
  | zero => rw [exprD_deep h1]; exact Or.inl rfl
  | succ d =>
   rw [exprD_pair h1]
   have a1 := needD_ge (l := l) (s := lparB) (q := (p, f))
   have a2 := exprD_ge (l := l) (E := E) d (needD l lparB (p, f))
   have a3 := opS_ge (l := l) (q := (exprD l E d (needD l lparB (p, f))).2)
   have a4 := exprD_ge (l := l) (E := E) d (opS l (exprD l E d (needD l lparB (p, f))).2)
   rcases hn rparB (exprD l E d (opS l (exprD l E d (needD l lparB (p, f))).2)).2 with h | h
   ·exact Or.inl h
   ·exact Or.inr (Nat.lt_of_le_of_lt (Nat.le_trans a1 (Nat.le_trans a2 (Nat.le_trans a3 a4))) h)
 ·by_cases h2 : tx l p f = dashB
  ·rw [exprD_dash h1 h2]
   rcases hm (failD (decide (tx l (needD l dashB (p, f)).1 (needD l dashB (p, f)).2 = zeroB)) (needD l dashB (p, f))) with h | h
   ·exact Or.inl h
   ·rw [failD_ge] at h
    exact Or.inr (Nat.lt_of_le_of_lt (needD_ge (q := (p, f))) h)
  ·by_cases h3 : digD (tx l p f) = true
   ·rw [exprD_num h1 h2 h3]
    exact hm (p, f)
   ·have h3 : digD (tx l p f) = false := by simpa using h3
    by_cases h4 : tx l (nameD l (p, f)).2.1 (nameD l (p, f)).2.2 = lsqB
    ·cases d with
     | zero => rw [exprD_celldeep h1 h2 h3 h4]; exact Or.inl rfl
     | succ d =>
      rw [exprD_cell h1 h2 h3 h4]
      have a1 := nameD_ge (l := l) (q := (p, f))
      have a2 := needD_ge (l := l) (s := lsqB) (q := (nameD l (p, f)).2)
      have a3 := exprD_ge (l := l) (E := E) d (needD l lsqB (nameD l (p, f)).2)
      rcases hn rsqB (exprD l E d (needD l lsqB (nameD l (p, f)).2)).2 with h | h
      ·exact Or.inl h
      ·exact Or.inr (Nat.lt_of_le_of_lt (Nat.le_trans a1 (Nat.le_trans a2 a3)) h)
    ·rw [exprD_name h1 h2 h3 h4]
     exact ha
end Go.Proofs.YtmfjlcpjemccmaaGreatDoor
