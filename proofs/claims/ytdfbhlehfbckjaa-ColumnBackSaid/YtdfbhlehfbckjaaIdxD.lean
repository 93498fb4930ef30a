/- Find, Last and Count: contracts. -/
import Derived.Test.YtdfbhlehfbckjaaIdxC
namespace Go.Proofs.Ytdfbhlehfbckjaa
open Go.RowKit

theorem below_any (v : Value) (xs : List Int) (t : Int) (w : World) (h : Sl intR w v xs) (hl : xs.length ≤ 1000000) (hs : xs.Pairwise (· ≤ ·)) :
    Calls Try.prog 24 #[v, .int .i64 t] w fun r w' => (∃ i : Nat, r = .returned (.int .i64 i) ∧ i ≤ xs.length ∧ (∀ (k : Nat) x, xs[k]? = some x → (k < i ↔ x < t))) ∧ Bel w w' := by
  go_enter Try.func24, Try.ntmps24
  go_wp2_with fail
  refine (search_any v xs t _ h hl hs).mono ?_
  rintro e w' ⟨⟨i, b, rfl, hi, hk⟩, hb⟩
  have HK := Lib.hid hk; clear hk
  have HB := Lib.hid hb; clear hb
  go_wp2_with fail
  go_ret
  exact ⟨⟨i, rfl, hi, HK.out⟩, HB.out⟩

theorem find_bad (v : Value) (l : List Ev) (kind n a b : Int) (w : World) (h : Sl evR w v l) (hl : ok64 l.length) (he : (findErr l.length kind != 0) = true) :
    Calls Try.prog 7 #[v, .int .i64 kind, .int .i64 n, .int .i64 a, .int .i64 b] w fun r w' => r = .returned (.tuple #[.slice none 0 0, .int .i64 (findErr l.length kind)]) ∧ Bel w w' := by
  go_enter Try.func7, Try.ntmps7
  go_wp2_with fail
  refine (ready_any v l kind _ h hl).mono ?_
  rintro e w' ⟨rfl, rfl⟩
  go_wp2_with fail
  go_ret2
  exact ⟨rfl, Bel.rfl_ w⟩
theorem last_bad (v : Value) (l : List Ev) (kind n b : Int) (w : World) (h : Sl evR w v l) (hl : ok64 l.length) (he : (findErr l.length kind != 0) = true) :
    Calls Try.prog 8 #[v, .int .i64 kind, .int .i64 n, .int .i64 b] w fun r w' => r = .returned (.tuple #[.int .i64 0, .bool false, .int .i64 (findErr l.length kind)]) ∧ Bel w w' := by
  go_enter Try.func8, Try.ntmps8
  go_wp2_with fail
  refine (ready_any v l kind _ h hl).mono ?_
  rintro e w' ⟨rfl, rfl⟩
  go_wp2_with fail
  go_ret3
  exact ⟨rfl, Bel.rfl_ w⟩
theorem count_bad (v : Value) (l : List Ev) (kind n : Int) (w : World) (h : Sl evR w v l) (hl : ok64 l.length) (he : (findErr l.length kind != 0) = true) :
    Calls Try.prog 9 #[v, .int .i64 kind, .int .i64 n] w fun r w' => r = .returned (.tuple #[.int .i64 0, .int .i64 (findErr l.length kind)]) ∧ Bel w w' := by
  go_enter Try.func9, Try.ntmps9
  go_wp2_with fail
  refine (ready_any v l kind _ h hl).mono ?_
  rintro e w' ⟨rfl, rfl⟩
  go_wp2_with fail
  go_ret2
  exact ⟨rfl, Bel.rfl_ w⟩

theorem findErr_ok {len : Nat} {kind : Int} (h : findErr len kind = 0) : len ≤ 4000 := by
  unfold findErr at h
  split at h <;> simp_all

theorem count_ok (v : Value) (l : List Ev) (kind n : Int) (w : World) (h : Sl evR w v l) (he : findErr l.length kind = 0) :
    Calls Try.prog 9 #[v, .int .i64 kind, .int .i64 n] w fun r w' => r = .returned (.tuple #[.int .i64 (timesUp l kind n l.length).length, .int .i64 0]) ∧ Bel w w' := by
  have hl := findErr_ok he
  have hb := build_any v l w h hl
  go_enter Try.func9, Try.ntmps9
  have HB := Lib.hid hb; clear hb
  go_wp2_with fail
  refine (ready_any v l kind _ h (by unfold ok64; omega)).mono ?_
  rintro e w' ⟨rfl, rfl⟩
  rw [he]
  have HE := Lib.hid he; clear he
  go_wp2_with fail
  refine HB.out.mono ?_
  rintro e w1 ⟨xb, mb, es, clk, rfl, hx, him, hb1⟩
  obtain ⟨u, hu, hlk⟩ := him.look kind n
  have hlk1 := hlk w1 him.blk
  unfold kv at hlk1
  obtain ⟨A, c, rfl, hc, hm, hA⟩ := hu
  have HB1 := Lib.hid hb1; clear hb1
  clear him hlk hA hm hc
  go_wp2_with fail
  go_ret2
  exact ⟨rfl, HB1.out⟩


theorem timesUp_sorted (l : List Ev) (a b : Int) (k : Nat) : (timesUp l a b k).Pairwise (· < ·) := by
  unfold timesUp
  rw [List.pairwise_map]
  exact (List.Pairwise.filter _ (List.pairwise_lt_range)).imp (by intro a b h; simpa using h)
theorem timesUp_le (l : List Ev) (a b : Int) (k : Nat) : (timesUp l a b k).Pairwise (· ≤ ·) := (timesUp_sorted l a b k).imp (by intro a b h; omega)

/-- of a rising list the part from the i numbers that are less than a to the j ones that are less than b -/
theorem cut_filter {xs : List Int} (_hs : xs.Pairwise (· < ·)) {a b : Int} {i j : Nat} (_hi : i ≤ xs.length) (_hj : j ≤ xs.length) (ha : ∀ (k : Nat) x, xs[k]? = some x → (k < i ↔ x < a)) (hb : ∀ (k : Nat) x, xs[k]? = some x → (k < j ↔ x < b)) :
    (xs.drop i).take (j - i) = xs.filter fun x => decide (a ≤ x) && decide (x < b) := by
  have e1 : xs.filter (fun x => decide (x < a)) = xs.take i := by
    have h1 : (xs.take i).filter (fun x => decide (x < a)) = xs.take i := by
      rw [List.filter_eq_self]
      intro x hx
      obtain ⟨k, hk⟩ := List.mem_iff_getElem?.1 hx
      rw [List.getElem?_take] at hk
      split at hk
      · rename_i hki; simpa using (ha k x hk).1 hki
      · cases hk
    have h2 : (xs.drop i).filter (fun x => decide (x < a)) = [] := by
      rw [List.filter_eq_nil_iff]
      intro x hx
      obtain ⟨k, hk⟩ := List.mem_iff_getElem?.1 hx
      rw [List.getElem?_drop] at hk
      have := (ha _ x hk)
      simp
      omega
    calc xs.filter (fun x => decide (x < a)) = (xs.take i ++ xs.drop i).filter (fun x => decide (x < a)) := by rw [List.take_append_drop]
      _ = xs.take i := by rw [List.filter_append, h1, h2, List.append_nil]
  have hsplit : xs = xs.take i ++ xs.drop i := (List.take_append_drop i xs).symm
  have h3 : (xs.take i).filter (fun x => decide (a ≤ x) && decide (x < b)) = [] := by
    rw [List.filter_eq_nil_iff]
    intro x hx
    obtain ⟨k, hk⟩ := List.mem_iff_getElem?.1 hx
    rw [List.getElem?_take] at hk
    split at hk
    · rename_i hki
      have := (ha k x hk).1 hki
      simp
      omega
    · cases hk
  have h4 : (xs.drop i).filter (fun x => decide (a ≤ x) && decide (x < b)) = (xs.drop i).take (j - i) := by
    have hd : xs.drop i = (xs.drop i).take (j - i) ++ (xs.drop i).drop (j - i) := (List.take_append_drop _ _).symm
    have h5 : ((xs.drop i).take (j - i)).filter (fun x => decide (a ≤ x) && decide (x < b)) = (xs.drop i).take (j - i) := by
      rw [List.filter_eq_self]
      intro x hx
      obtain ⟨k, hk⟩ := List.mem_iff_getElem?.1 hx
      rw [List.getElem?_take] at hk
      split at hk
      · rename_i hki
        rw [List.getElem?_drop] at hk
        have h1 := ha _ x hk
        have h2 := hb _ x hk
        simp
        omega
      · cases hk
    have h6 : ((xs.drop i).drop (j - i)).filter (fun x => decide (a ≤ x) && decide (x < b)) = [] := by
      rw [List.filter_eq_nil_iff]
      intro x hx
      obtain ⟨k, hk⟩ := List.mem_iff_getElem?.1 hx
      rw [List.getElem?_drop, List.getElem?_drop] at hk
      have h2 := hb _ x hk
      simp
      omega
    calc (xs.drop i).filter (fun x => decide (a ≤ x) && decide (x < b)) = ((xs.drop i).take (j - i) ++ (xs.drop i).drop (j - i)).filter (fun x => decide (a ≤ x) && decide (x < b)) := by rw [← hd]
      _ = _ := by rw [List.filter_append, h5, h6, List.append_nil]
  calc (xs.drop i).take (j - i) = (xs.take i ++ xs.drop i).filter (fun x => decide (a ≤ x) && decide (x < b)) := by rw [List.filter_append, h3, h4, List.nil_append]
    _ = _ := by rw [List.take_append_drop]
theorem findUp_eq (l : List Ev) (kind n a b : Int) (k : Nat) : findUp l kind n a b k = (timesUp l kind n k).filter fun x => decide (a ≤ x) && decide (x < b) := by
  unfold findUp timesUp
  rw [List.filter_map, List.filter_filter]
  congr 1
  apply List.filter_congr
  intro t _
  simp [Function.comp, Bool.and_assoc]

theorem findUp_nil {l : List Ev} {kind n a b : Int} {k i j : Nat} (hi : i ≤ (timesUp l kind n k).length) (hj : j ≤ (timesUp l kind n k).length) (ha : ∀ (t : Nat) x, (timesUp l kind n k)[t]? = some x → (t < i ↔ x < a)) (hb : ∀ (t : Nat) x, (timesUp l kind n k)[t]? = some x → (t < j ↔ x < b)) (h : j ≤ i) : findUp l kind n a b k = [] := by
  rw [findUp_eq, ← cut_filter (timesUp_sorted l kind n k) hi hj ha hb, show j - i = 0 by omega]
  rfl

set_option maxHeartbeats 400000 in
theorem find_ok (v : Value) (l : List Ev) (kind n a b : Int) (w : World) (h : Sl evR w v l) (he : findErr l.length kind = 0) :
    Calls Try.prog 7 #[v, .int .i64 kind, .int .i64 n, .int .i64 a, .int .i64 b] w fun r w' => ∃ u, r = .returned (.tuple #[u, .int .i64 0]) ∧ Sl intR w' u (findUp l kind n a b l.length) ∧ Bel w w' := by
  have hl := findErr_ok he
  have hb := build_any v l w h hl
  have hlen := timesUp_len l kind n l.length
  go_enter Try.func7, Try.ntmps7
  have HB := Lib.hid hb; clear hb
  go_wp2_with fail
  refine (ready_any v l kind _ h (by unfold ok64; omega)).mono ?_
  rintro e w' ⟨rfl, rfl⟩
  rw [he]
  have HE := Lib.hid he; clear he
  go_wp2_with fail
  refine HB.out.mono ?_
  rintro e w1 ⟨xb, mb, es, clk, rfl, hx, him, hb1⟩
  obtain ⟨u, hu, hlk⟩ := him.look kind n
  have hlk1 := hlk w1 him.blk
  unfold kv at hlk1
  have HB1 := Lib.hid hb1; clear hb1 HB
  have HU := Lib.hid hu; clear hu
  clear him hlk
  have HS := Lib.hid (timesUp_le l kind n l.length)
  go_wp2_with fail
  refine (below_any u _ a _ HU.out (by omega) HS.out).mono ?_
  rintro e w2 ⟨⟨i, rfl, hi, hik⟩, hb2⟩
  have HU2 := Lib.hid (HU.out.keep hb2)
  have HB2 := Lib.hid (HB1.out.tr hb2); clear hb2 HU HB1
  have HI := Lib.hid hik; clear hik
  go_wp2_with fail
  refine (below_any u _ b _ HU2.out (by omega) HS.out).mono ?_
  rintro e w3 ⟨⟨j, rfl, hj, hjk⟩, hb3⟩
  have HU3 := Lib.hid (HU2.out.keep hb3)
  have HB3 := Lib.hid (HB2.out.tr hb3); clear hb3 HU2 HB2
  have HJ := Lib.hid hjk; clear hjk
  obtain ⟨A, c, hu, hc, hm, hA⟩ := HU3.out
  subst hu
  have HM := Lib.hid hm; clear hm
  have HA := Lib.hid hA; clear hA
  by_cases hij : j < i
  · go_wp2_with fail
    go_ret2
    refine ⟨_, rfl, ?_, HB3.out⟩
    rw [findUp_nil hi hj HI.out HJ.out (by omega)]
    exact Sl.nil_ _ _
  · have hci : c = i ∨ ¬ c = i := by omega
    rcases hci with hci | hci
    all_goals
      try subst hci
      go_wp2_with fail
      refine (cloneInt_any _ (((timesUp l kind n l.length).drop _).take (j - _)) _ (Sl.cut hc HM.out HA.out hj (by simp [intR, *]) (by simp)) (by rw [List.length_take, List.length_drop]; omega)).mono ?_
      rintro e w4 ⟨u4, rfl, ho4, hb4⟩
      have HO4 := Lib.hid ho4; clear ho4
      have HB4 := Lib.hid (HB3.out.tr hb4); clear hb4
      go_wp2_with fail
      go_ret2
      refine ⟨_, rfl, ?_, HB4.out⟩
      rw [findUp_eq, ← cut_filter (timesUp_sorted l kind n _) hi hj HI.out HJ.out]
      exact Sl.own_int HO4.out rfl

end Go.Proofs.Ytdfbhlehfbckjaa
