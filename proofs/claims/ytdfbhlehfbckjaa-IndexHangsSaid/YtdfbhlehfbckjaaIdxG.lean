/- IndexTells where there is an error; IndexHangs. -/
import Derived.Test.YtdfbhlehfbckjaaIdxF
import Derived.Test.YtdfbhlehfbckjaaOwn2
namespace Go.Proofs.Ytdfbhlehfbckjaa
open Go.RowKit

theorem tells_bad (v : Value) (l : List Ev) (kind n a b : Int) (w : World) (h : Sl evR w v l) (hok : ok64 l.length) (he : (findErr l.length kind != 0) = true) :
    Calls Try.prog 3 #[v, .int .i64 kind, .int .i64 n, .int .i64 a, .int .i64 b] w fun r w' => r = .returned (.bool true) ∧ Bel w w' := by
  have H := Lib.hid h
  have he' : (findErr l.length kind == 0) = false := by simpa using he
  go_enter Try.func3, Try.ntmps3
  go_wp2_with fail
  refine (find_bad v l kind n a b _ H.out hok he).mono ?_
  rintro e w1 ⟨rfl, hb1⟩
  have HB1 := Lib.hid hb1; have H1 := Lib.hid (H.out.keep hb1); clear hb1
  go_wp2_with fail
  refine (last_bad v l kind n b _ H1.out hok he).mono ?_
  rintro e w2 ⟨rfl, hb2⟩
  have HB2 := Lib.hid (HB1.out.tr hb2); have H2 := Lib.hid (H1.out.keep hb2); clear hb2 HB1 H1
  go_wp2_with fail
  refine (count_bad v l kind n _ H2.out hok he).mono ?_
  rintro e w3 ⟨rfl, hb3⟩
  have HB3 := Lib.hid (HB2.out.tr hb3); have H3 := Lib.hid (H2.out.keep hb3); clear hb3 HB2 H2
  go_wp2_with fail
  refine (checkFind_any v l kind _ H3.out hok).mono ?_
  rintro e w4 ⟨rfl, rfl⟩
  go_wp2_with fail
  refine (indexBegun_any _).mono ?_
  rintro e w7 ⟨rfl, hb7⟩
  have HB7 := Lib.hid (HB3.out.tr hb7); clear hb7
  go_wp2_with fail
  refine (sameInts_any _ _ [] [] _ (Sl.nil_ _ _) (Sl.nil_ _ _) (by unfold ok64; decide) (by unfold ok64; decide)).mono ?_
  rintro e w8 ⟨rfl, hb8⟩
  have HB8 := Lib.hid (HB7.out.tr hb8); clear hb8 HB7
  simp only [decide_true]
  go_wp2_with fail
  go_ret
  exact ⟨ret_bool (by simp), HB8.out⟩

theorem tells_any (v : Value) (l : List Ev) (kind n a b : Int) (w : World) (h : Sl evR w v l) (hok : ok64 l.length) :
    Calls Try.prog 3 #[v, .int .i64 kind, .int .i64 n, .int .i64 a, .int .i64 b] w fun r w' => r = .returned (.bool true) ∧ Bel w w' := by
  by_cases he : findErr l.length kind = 0
  · exact tells_ok v l kind n a b w h he
  · exact tells_bad v l kind n a b w h hok (by simpa using he)

theorem foldl_last (b : Int) : ∀ (xs : List Int) (acc : Int × Bool), xs.foldl (fun acc x => if x < b then (x, true) else acc) acc = match (xs.filter fun x => decide (x < b)).getLast? with | some x => (x, true) | none => acc
  | [], acc => rfl
  | x :: xs, acc => by
    rw [List.foldl_cons, foldl_last b xs, List.filter_cons]
    by_cases h : x < b
    · simp only [h, if_true, decide_true]
      rw [List.getLast?_cons]
      cases (xs.filter fun x => decide (x < b)).getLast? <;> rfl
    · simp only [h, if_false, decide_false, Bool.false_eq_true]
theorem lastB_eq (xs : List Int) (b : Int) : lastB xs b = match (xs.filter fun x => decide (x < b)).getLast? with | some x => (x, true) | none => (0, false) := foldl_last b xs (0, false)
theorem timesUp_pos {l : List Ev} {kind n : Int} {k : Nat} : ∀ x ∈ timesUp l kind n k, 0 ≤ x ∧ x < k := by
  intro x hx
  unfold timesUp at hx
  obtain ⟨t, ht, rfl⟩ := List.mem_map.1 hx
  have := List.mem_range.1 (List.mem_filter.1 ht).1
  simp
  omega
theorem findUp_lo (l : List Ev) (kind n cut : Int) (k : Nat) : findUp l kind n 0 cut k = (timesUp l kind n k).filter fun x => decide (x < cut) := by
  rw [findUp_eq]
  apply List.filter_congr
  intro x hx
  have := timesUp_pos x hx
  simp
  omega
theorem findUp_hi (l : List Ev) (kind n cut : Int) (k : Nat) : findUp l kind n cut k k = (timesUp l kind n k).filter fun x => !decide (x < cut) := by
  rw [findUp_eq]
  apply List.filter_congr
  intro x hx
  have := timesUp_pos x hx
  by_cases h : x < cut <;> simp [h] <;> omega
theorem sorted_split {xs : List Int} (hs : xs.Pairwise (· < ·)) (c : Int) : xs.filter (fun x => decide (x < c)) ++ xs.filter (fun x => !decide (x < c)) = xs := by
  induction xs with
  | nil => rfl
  | cons x xs ih =>
    rw [List.pairwise_cons] at hs
    by_cases h : x < c
    · simp only [List.filter_cons, h, decide_true, if_true, Bool.not_true, Bool.false_eq_true, if_false, List.cons_append, ih hs.2]
    · have h1 : xs.filter (fun x => decide (x < c)) = [] := by
        rw [List.filter_eq_nil_iff]
        intro y hy
        have := hs.1 y hy
        simp
        omega
      have h2 : xs.filter (fun x => !decide (x < c)) = xs := by
        have := ih hs.2
        rw [h1] at this
        simpa using this
      simp only [List.filter_cons, h, decide_false, Bool.false_eq_true, if_false, Bool.not_false, if_true, h1, h2, List.nil_append]
theorem split_all (l : List Ev) (kind n cut : Int) : findUp l kind n 0 cut l.length ++ findUp l kind n cut l.length l.length = timesUp l kind n l.length := by
  rw [findUp_lo, findUp_hi]
  exact sorted_split (timesUp_sorted l kind n _) cut

end Go.Proofs.Ytdfbhlehfbckjaa
