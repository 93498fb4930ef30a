/- What is decoded, in plain words. Each lemma states its own conditions. -/
import Derived.Test.YtdfbhlehfbckjaaColI
namespace Go.Proofs.Ytdfbhlehfbckjaa
open Go.RowKit

def rd (s : ByteArray) (p : Nat) : Nat → Option (List Nat × Nat)
  | 0 => some ([], p)
  | m + 1 => match rd s p m with
    | none => none
    | some (l, e) => match natAt s e with
      | none => none
      | some (n, to) => some (l ++ [n], to)
theorem rd_some {s : ByteArray} {p m : Nat} {l : List Nat} {e n to : Nat} (h : rd s p m = some (l, e)) (hn : natAt s e = some (n, to)) : rd s p (m + 1) = some (l ++ [n], to) := by rw [rd, h]; simp only [hn]
theorem rd_none {s : ByteArray} {p m : Nat} {l : List Nat} {e : Nat} (h : rd s p m = some (l, e)) (hn : natAt s e = none) : rd s p (m + 1) = none := by rw [rd, h]; simp only [hn]
theorem rd_up {s : ByteArray} {p m : Nat} (h : rd s p m = none) : ∀ d, rd s p (m + d) = none
  | 0 => h
  | d + 1 => by rw [← Nat.add_assoc, rd, rd_up h d]
theorem rd_facts {s : ByteArray} {p : Nat} (hp : p ≤ s.size) : ∀ (m : Nat) (l : List Nat) (e : Nat), rd s p m = some (l, e) → l.length = m ∧ e ≤ s.size ∧ ∀ x ∈ l, x < 4398046511104
  | 0, l, e, h => by
    rw [rd] at h
    injection h with h
    injection h with h1 h2
    subst h1 h2
    exact ⟨rfl, hp, by simp⟩
  | m + 1, l, e, h => by
    rw [rd] at h
    split at h
    · cases h
    · rename_i l' e' hr
      split at h
      · cases h
      · rename_i n to hn
        injection h with h
        injection h with h1 h2
        subst h1 h2
        obtain ⟨g1, g2, g3⟩ := rd_facts hp m l' e' hr
        obtain ⟨k1, k2, k3⟩ := natAt_lt hn
        refine ⟨by simp [g1], k3, fun x hx => ?_⟩
        rcases List.mem_append.1 hx with hx | hx
        · exact g3 x hx
        · rw [List.mem_singleton.1 hx]; exact k1

def colSum (l : List Nat) (many k : Nat) : Int := ((l.drop (k * many)).map unzig).sum
def val (l : List Nat) (many c i : Nat) : Int := (((l.drop (c * many)).take (i + 1)).map unzig).sum
theorem val_ext {l : List Nat} {many c i : Nat} (h : c * many + i + 1 ≤ l.length) (r : List Nat) : val (l ++ r) many c i = val l many c i := by
  unfold val
  rw [List.drop_append_of_le_length (by omega), List.take_append_of_le_length (by rw [List.length_drop]; omega)]
theorem colSum_snoc {l : List Nat} {many k : Nat} (h : k * many ≤ l.length) (n : Nat) : colSum (l ++ [n]) many k = colSum l many k + unzig n := by
  unfold colSum
  rw [List.drop_append_of_le_length h, List.map_append, List.sum_append]
  simp
theorem val_new {l : List Nat} {many k j : Nat} (h : l.length = k * many + j) (n : Nat) : val (l ++ [n]) many k j = colSum l many k + unzig n := by
  rw [← colSum_snoc (by omega)]
  unfold val colSum
  rw [List.take_of_length_le (by rw [List.length_drop, List.length_append, h, List.length_singleton]; omega)]
theorem colSum_zero {l : List Nat} {many k : Nat} (h : l.length = k * many) : colSum l many k = 0 := by
  unfold colSum
  rw [List.drop_of_length_le (by omega)]
  rfl
theorem unzig_le {n : Nat} (h : n < 4398046511104) : -4398046511104 ≤ unzig n ∧ unzig n ≤ 4398046511104 := by unfold unzig; split <;> omega
theorem sum_le : ∀ (l : List Nat), (∀ x ∈ l, x < 4398046511104) → -(4398046511104 * (l.length : Int)) ≤ (l.map unzig).sum ∧ (l.map unzig).sum ≤ 4398046511104 * (l.length : Int)
  | [], _ => by simp
  | x :: l, h => by
    have h1 := unzig_le (h x (by simp))
    have h2 := sum_le l (fun y hy => h y (by simp [hy]))
    rw [List.map_cons, List.sum_cons, List.length_cons]
    omega
theorem colSum_le {l : List Nat} {many k j : Nat} (hl : ∀ x ∈ l, x < 4398046511104) (h : l.length = k * many + j) (hj : j ≤ 4000) : -17592186044416000 ≤ colSum l many k ∧ colSum l many k ≤ 17592186044416000 := by
  have := sum_le (l.drop (k * many)) (fun x hx => hl x (List.mem_of_mem_drop hx))
  have h2 : (l.drop (k * many)).length = j := by rw [List.length_drop, h]; omega
  rw [h2] at this
  unfold colSum
  omega

def evAt (l : List Nat) (many i : Nat) : Ev := ⟨val l many 0 i, val l many 1 i, val l many 2 i, val l many 3 i, val l many 4 i, val l many 5 i⟩
def evsOf (l : List Nat) (many : Nat) : List Ev := (List.range many).map (evAt l many)
/-- what is decoded: the error, the events -/
def decOf (s : ByteArray) : Int × List Ev := match natAt s 0 with
  | none => (1, [])
  | some (many, a) => if 4000 < many then (2, []) else match rd s a (6 * many) with
    | none => (1, [])
    | some (l, e) => if e < s.size then (1, []) else if (evsOf l many).all evSmall = true then (0, evsOf l many) else (1, [])

/-- cells of events, column by column -/
def OutOk (arr : Array Value) (many : Nat) (F : Nat → Nat → Int) : Prop := arr.size = many * 6 ∧ ∀ i c, i < many → c < 6 → arr[i * 6 + c]? = some (.int .i64 (F i c))
theorem OutOk.set {arr : Array Value} {many : Nat} {F G : Nat → Nat → Int} (h : OutOk arr many F) {i c : Nat} (hi : i < many) (hc : c < 6) {v : Int} (hv : G i c = v) (hG : ∀ i' c', i' < many → c' < 6 → ¬ (i' = i ∧ c' = c) → G i' c' = F i' c') :
    OutOk (arr.setIfInBounds (i * 6 + c) (.int .i64 v)) many G := by
  refine ⟨by simp [h.1], fun i' c' hi' hc' => ?_⟩
  rw [Array.getElem?_setIfInBounds]
  by_cases he : i * 6 + c = i' * 6 + c'
  · obtain rfl : i = i' := by omega
    obtain rfl : c = c' := by omega
    rw [if_pos he, if_pos (by rw [h.1]; omega), hv]
  · rw [if_neg he, h.2 i' c' hi' hc', hG i' c' hi' hc' (fun ⟨h1, h2⟩ => he (by rw [h1, h2]))]
def partF (l : List Nat) (many k j : Nat) (i c : Nat) : Int := if c < k ∨ (c = k ∧ i < j) then val l many c i else 0
theorem partF_step {arr : Array Value} {l : List Nat} {many k j n : Nat} (h : OutOk arr many (partF l many k j)) (hl : l.length = k * many + j) (hj : j < many) (hk : k < 6) :
    OutOk (arr.setIfInBounds (j * 6 + k) (.int .i64 (colSum l many k + unzig n))) many (partF (l ++ [n]) many k (j + 1)) := by
  refine h.set hj hk (by unfold partF; rw [if_pos (.inr ⟨rfl, by omega⟩), val_new hl]) fun i c hi hc hne => ?_
  unfold partF
  by_cases h1 : c < k ∨ (c = k ∧ i < j)
  · rw [if_pos (h1.imp id fun ⟨a, b⟩ => ⟨a, by omega⟩), if_pos h1, val_ext]
    rw [hl]
    rcases h1 with h1 | ⟨rfl, h1⟩
    · have : (c + 1) * many ≤ k * many := Nat.mul_le_mul_right many h1
      rw [Nat.add_mul] at this
      omega
    · omega
  · rw [if_neg h1, if_neg]
    rintro (h2 | ⟨rfl, h2⟩)
    · exact h1 (.inl h2)
    · exact hne ⟨by have : ¬ i < j := fun h3 => h1 (.inr ⟨rfl, h3⟩)
                    omega, rfl⟩
theorem partF_end {arr : Array Value} {l : List Nat} {many k : Nat} (h : OutOk arr many (partF l many k many)) : OutOk arr many (partF l many (k + 1) 0) := by
  refine ⟨h.1, fun i c hi hc => ?_⟩
  rw [h.2 i c hi hc]
  unfold partF
  by_cases h1 : c < k ∨ (c = k ∧ i < many)
  · rw [if_pos h1, if_pos (by omega)]
  · rw [if_neg h1, if_neg (by omega)]
theorem OutOk.sl {w : World} {og many cap : Nat} {arr : Array Value} {l : List Nat} {t : TypeId} (hB : Blk w og t arr) (h : OutOk arr many (partF l many 6 0)) (hc : many ≤ cap) (hm : cap ≤ maxLen) :
    Sl evR w (.slice (some ⟨og, 0, none⟩) many cap) (evsOf l many) := by
  have hlen : (evsOf l many).length = many := by simp [evsOf]
  refine ⟨some ⟨og, 0, none⟩, cap, by rw [hlen], by omega, ⟨hm, fun h => by cases h⟩, fun _ => ⟨og, 0, rfl, fun i x hx => ⟨x.cells, rfl, fun c u hu => ?_⟩⟩⟩
  have hi : i < many := by have := (List.getElem?_eq_some_iff.1 hx).1; omega
  have hx2 : x = evAt l many i := by
    unfold evsOf at hx
    rw [List.getElem?_map, List.getElem?_range hi] at hx
    exact (Option.some.inj hx).symm
  have hc6 : c < 6 := (List.getElem?_eq_some_iff.1 hu).1
  have h6 : evR.size = 6 := rfl
  rw [h6, hB.cell (show arr[0 + i * 6 + c]? = some (.int .i64 (partF l many 6 0 i c)) by rw [Nat.zero_add]; exact h.2 i c hi hc6), ← hu]
  subst hx2
  unfold partF
  rw [if_pos (.inl hc6)]
  match c, hc6 with
  | 0, _ | 1, _ | 2, _ | 3, _ | 4, _ | 5, _ => rfl

end Go.Proofs.Ytdfbhlehfbckjaa
