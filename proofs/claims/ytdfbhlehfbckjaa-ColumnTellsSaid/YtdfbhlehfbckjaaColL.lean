/- The document's decoding computes what is decoded. Each lemma states its own conditions. -/
import Derived.Test.YtdfbhlehfbckjaaColK
namespace Go.Proofs.Ytdfbhlehfbckjaa
open Go.RowKit

theorem own_apart {w : World} {b1 b2 : Nat} {e1 e2 : TypeId} {s1 s2 n1 n2 : Nat} {v1 v2 : Value} {x1 x2 : List Value} (h1 : w.ownsRow b1 e1 s1 v1 n1 x1) (h2 : w.ownsRow b2 e2 s2 v2 n2 x2) (he : e1 ≠ e2) : v1.ownBlock = none ∨ v1.ownBlock ≠ v2.ownBlock := by
  rcases h1.2 with ⟨rfl, _⟩ | ⟨g1, c1, cur1, rfl, _, hg1, _⟩
  · exact .inl rfl
  · refine .inr ?_
    rcases h2.2 with ⟨rfl, _⟩ | ⟨g2, c2, cur2, rfl, _, hg2, _⟩
    · simp [Value.ownBlock]
    · intro h
      have h : g1 = g2 := by simpa [Value.ownBlock] using h
      subst h
      rw [hg1] at hg2
      injection hg2 with hg2
      injection hg2 with _ hg2 _
      exact he hg2
theorem own_one {w : World} {b : Nat} {e : TypeId} {s n : Nat} {v : Value} {x : List Value} (h : w.ownsRow b e s v n x) : v.oneCell' = true := by
  rcases h.2 with ⟨rfl, _⟩ | ⟨g, c, cur, rfl, _⟩ <;> rfl
theorem elRow : Elem Try.prog 80 23 1 24 := Elem.mk_ (z := .slice none 0 0) Try.underlying80 (by kernel_rfl) rfl (by decide)
theorem elInt' : Elem Try.prog 23 3 1 8 := Elem.mk_ (z := .int .i64 0) Try.underlying23 (by kernel_rfl) rfl (by decide)
theorem elEv' : Elem Try.prog 22 58 6 48 := Elem.mk_ (z := .agg #[.int .i64 0, .int .i64 0, .int .i64 0, .int .i64 0, .int .i64 0, .int .i64 0]) Try.underlying22 (by kernel_rfl) rfl (by decide)

def colC (l : List Nat) (many c j : Nat) : List Value := (List.range j).map fun i => Value.int .i64 (val l many c i)
theorem colC_len (l : List Nat) (many c j : Nat) : (colC l many c j).length = j := by simp [colC]
theorem colC_ext {l : List Nat} {many c j : Nat} (h : c * many + j ≤ l.length) (r : List Nat) : colC (l ++ r) many c j = colC l many c j := by
  unfold colC
  refine List.map_congr_left fun i hi => ?_
  rw [val_ext (by have := List.mem_range.1 hi; omega)]
theorem colC_snoc {l : List Nat} {many k j : Nat} (h : l.length = k * many + j) (n : Nat) : colC (l ++ [n]) many k (j + 1) = colC l many k j ++ [.int .i64 (colSum l many k + unzig n)] := by
  have := colC_ext (c := k) (j := j) (by omega) (l := l) (many := many) [n]
  unfold colC at *
  rw [List.range_succ, List.map_append, this, List.map_cons, List.map_nil, val_new h]

/-- the rows that are whole -/
def RSt (B : Nat) (l : List Nat) (many : Nat) (w : World) (k : Nat) (rows : Value) : Prop := ∃ vs : List Value, w.ownsRow B 23 1 rows k vs ∧ ∀ c, c < k → ∃ v, vs[c]? = some v ∧ w.ownsRow B 3 1 v many (colC l many c many)
theorem RSt.keep {B : Nat} {l : List Nat} {many : Nat} {w w' : World} {k : Nat} {rows : Value} (hb : Bel w w') : RSt B l many w k rows → RSt B l many w' k rows := fun ⟨vs, h1, h2⟩ => ⟨vs, hb.own h1, fun c hc => let ⟨v, h3, h4⟩ := h2 c hc; ⟨v, h3, hb.own h4⟩⟩
theorem RSt.ext {B : Nat} {l : List Nat} {many : Nat} {w : World} {k : Nat} {rows : Value} (hl : k * many ≤ l.length) (r : List Nat) : RSt B l many w k rows → RSt B (l ++ r) many w k rows := fun ⟨vs, h1, h2⟩ => ⟨vs, h1, fun c hc => by
  obtain ⟨v, h3, h4⟩ := h2 c hc
  refine ⟨v, h3, ?_⟩
  rw [colC_ext]
  · exact h4
  · have : (c + 1) * many ≤ k * many := Nat.mul_le_mul_right many hc
    rw [Nat.add_mul] at this
    omega⟩

theorem decodeOf_bad (s : ByteArray) (w : World) (hs : ok64 s.size) (hN : natAt s 0 = none) :
    Calls Try.prog 18 #[.string s] w fun r w' => r = .returned (.tuple #[.slice none 0 0, .int .i64 1]) ∧ Bel w w' := by
  have HN := Lib.hid hN; clear hN
  go_enter Try.func18, Try.ntmps18
  go_wp2_with fail
  refine (naturalAt_ref s 0 w hs (Nat.zero_le _)).mono ?_
  rintro e w1 ⟨⟨n, to, ok, rfl, hok⟩, rfl⟩
  unfold natOk at hok
  rw [HN.out] at hok
  subst hok
  go_wp2
  go_ret2
  exact ⟨rfl, Bel.rfl_ _⟩
theorem decodeOf_many (s : ByteArray) (many a : Nat) (w : World) (hs : ok64 s.size) (hN : natAt s 0 = some (many, a)) (hm : 4000 < many) :
    Calls Try.prog 18 #[.string s] w fun r w' => r = .returned (.tuple #[.slice none 0 0, .int .i64 2]) ∧ Bel w w' := by
  have HN := Lib.hid hN; clear hN
  go_enter Try.func18, Try.ntmps18
  go_wp2_with fail
  refine (naturalAt_ref s 0 w hs (Nat.zero_le _)).mono ?_
  rintro e w1 ⟨⟨n, to, ok, rfl, hok⟩, rfl⟩
  unfold natOk at hok
  rw [HN.out] at hok
  obtain ⟨rfl, rfl, rfl⟩ := hok
  go_wp2
  go_ret2
  exact ⟨rfl, Bel.rfl_ _⟩

end Go.Proofs.Ytdfbhlehfbckjaa
