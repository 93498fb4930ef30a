/- Is a way one of Writes and Flushes? walked. Each lemma states its own conditions. -/
import Derived.Test.YtkojeofegoljpaaLogX
import Derived.Deep.DeepCutAuto
namespace Go.Proofs.Ytkojeofegoljpaa
open Go.RowKit

/-- one disk is a Write, or a Flush, further than one that is right -/
def Step1 (a b : Dk) : Prop := a.err = 0 ∧ (b = a.flushed ∨ ∃ n s, a.wr n s = 0 ∧ b = a.put n s)
theorem isStep_any (a b : Dk) (va vb : Value) (w : World) (ha : DkV w a va) (hb : DkV w b vb) (h : Step1 a b) :
    Calls Try.prog 57 #[va, vb] w fun r w' => r = .returned (.bool true) ∧ Bel w w' := by
  obtain ⟨he, h | ⟨n, s, h1, h2⟩⟩ := h
  · exact isStep_flush a b va vb w ha hb he h
  · exact isStep_put a b va vb n s w ha hb he h1 h2
/-- each is a step from the one ahead of it -/
def Steps : Dk → List Dk → Prop
  | _, [] => True
  | a, b :: l => Step1 a b ∧ Steps b l
def lastD : Dk → List Dk → Dk
  | a, [] => a
  | _, b :: l => lastD b l
theorem Steps.app : ∀ {a : Dk} {l m : List Dk}, Steps a l → Steps (lastD a l) m → Steps a (l ++ m)
  | _, [], _, _, h => h
  | _, _ :: _, _, h, k => ⟨h.1, Steps.app h.2 k⟩
theorem lastD_app : ∀ (a : Dk) (l : List Dk) (b : Dk), lastD a (l ++ [b]) = b
  | _, [], _ => rfl
  | _, c :: l, b => lastD_app c l b
theorem Steps.snoc {a : Dk} {l : List Dk} {b : Dk} (h : Steps a l) (k : Step1 (lastD a l) b) : Steps a (l ++ [b]) := Steps.app h ⟨k, trivial⟩
theorem Dk.wr_of {d : Dk} {n : Int} {s : ByteArray} (h : d.err = 0) (hn : 0 ≤ n ∧ n < d.kept.length) (hs : s.size = 32) (hw : d.written.length < 600) : d.wr n s = 0 := by
  unfold Dk.wr
  rw [if_pos (Dk.one_of h hn), if_pos hs, if_neg (by omega)]
theorem bodyW_len (u : Nat) (l : List Ev) : (bodyW u l).length = l.length + 1 := by rw [bodyW, List.length_cons, evW_len]
theorem pref_steps {d : Dk} {u : Nat} {l : List Ev} (he : d.err = 0) (hl : l.length ≤ 60) (hu : u + 1 + l.length ≤ d.kept.length) : ∀ k, k ≤ l.length + 1 → Steps ⟨d.kept, []⟩ (prefW d.kept (bodyW u l) k) ∧ lastD ⟨d.kept, []⟩ (prefW d.kept (bodyW u l) k) = ⟨d.kept, (bodyW u l).take k⟩
  | 0, _ => ⟨trivial, rfl⟩
  | k + 1, hk => by
    obtain ⟨h1, h2⟩ := pref_steps he hl hu k (by omega)
    rw [prefW_succ]
    refine ⟨h1.snoc ?_, lastD_app _ _ _⟩
    rw [h2]
    refine ⟨pref_err he hl hu k, .inr ?_⟩
    obtain ⟨x, hx⟩ : ∃ x, (bodyW u l)[k]? = some x := ⟨_, List.getElem?_eq_getElem (by rw [bodyW_len]; omega)⟩
    obtain ⟨_, _, _, h4⟩ := Dk.err_zero (bodyD_err he hl hu)
    obtain ⟨h5, h6⟩ := h4 x (List.mem_of_getElem? hx)
    refine ⟨x.sector, x.bytes, Dk.wr_of (pref_err he hl hu k) h5 h6 (by show ((bodyW u l).take k).length < 600; rw [List.length_take]; omega), ?_⟩
    rw [List.take_add_one, hx]
    rfl
theorem ways_steps {d : Dk} {t : Int} {u : Nat} {l : List Ev} (he : d.err = 0) (hl : l.length ≤ 60) (hu : u + 1 + l.length ≤ d.kept.length) (hu2 : 2 ≤ u) : Steps ⟨d.kept, []⟩ (appWays d.kept t u l) ∧ lastD ⟨d.kept, []⟩ (appWays d.kept t u l) = appF d.kept t u l := by
  obtain ⟨h1, h2⟩ := pref_steps he hl hu (l.length + 1) (Nat.le_refl _)
  have hb := bodyD_err he hl hu
  have hh := appH_err (t := t) he hl hu hu2
  obtain ⟨f1, f2, f3⟩ := Dk.flushed_of hb
  have hbt : (bodyW u l).take (l.length + 1) = bodyW u l := by rw [← bodyW_len u l, List.take_length]
  rw [hbt] at h2
  refine ⟨?_, lastD_app _ _ _⟩
  unfold appWays
  refine Steps.snoc (Steps.snoc (Steps.snoc h1 ?_) ?_) ?_
  · rw [h2]
    exact ⟨hb, .inl rfl⟩
  · rw [lastD_app]
    exact ⟨f1, .inr ⟨_, _, Dk.wr_of f1 ⟨by omega, by rw [f2]; show (t + 1) % 2 < (d.kept.length : Int); omega⟩ (secS_size (by simp)) (by rw [f3]; simp), rfl⟩⟩
  · rw [lastD_app]
    exact ⟨hh, .inl rfl⟩
/-- the cells of a disk on a way -/
theorem prC_get : ∀ (ps : List (Value × Value)) (i : Nat) (p : Value × Value), ps[i]? = some p → (prC ps)[i * 2]? = some p.1 ∧ (prC ps)[i * 2 + 1]? = some p.2
  | [], i, p, h => by simp at h
  | q :: ps, 0, p, h => by
    obtain rfl : q = p := by simpa using h
    exact ⟨rfl, rfl⟩
  | q :: ps, i + 1, p, h => by
    have := prC_get ps i p (by simpa using h)
    rw [show (i + 1) * 2 = i * 2 + 2 by omega]
    exact this

end Go.Proofs.Ytkojeofegoljpaa
