/- IndexTells: whatever is handed in it answers true, and leaves all memory below as it was. -/
import Derived.Test.YtdfbhlehfbckjaaIdxE
namespace Go.Proofs.Ytdfbhlehfbckjaa
open Go.RowKit

theorem findUp_all (l : List Ev) (kind n : Int) : findUp l kind n 0 l.length l.length = timesUp l kind n l.length := by
  rw [findUp_eq, List.filter_eq_self]
  intro x hx
  unfold timesUp at hx
  obtain ⟨t, ht, rfl⟩ := List.mem_map.1 hx
  have := List.mem_range.1 (List.mem_filter.1 ht).1
  simp
  omega

set_option maxHeartbeats 1000000 in
theorem tells_ok (v : Value) (l : List Ev) (kind n a b : Int) (w : World) (h : Sl evR w v l) (he : findErr l.length kind = 0) :
    Calls Try.prog 3 #[v, .int .i64 kind, .int .i64 n, .int .i64 a, .int .i64 b] w fun r w' => r = .returned (.bool true) ∧ Bel w w' := by
  have hl := findErr_ok he
  have hok : ok64 l.length := by unfold ok64; omega
  have hlen1 := timesUp_len l kind n l.length
  have hlen2 := findUp_len l kind n a b l.length
  have H := Lib.hid h
  have HE := Lib.hid he
  clear he
  have HF := Lib.hid (findUp_all l kind n)
  go_enter Try.func3, Try.ntmps3
  go_wp2_with fail
  refine (find_ok v l kind n a b _ H.out HE.out).mono ?_
  rintro e w1 ⟨u1, rfl, hu1, hb1⟩
  have HU1 := Lib.hid hu1; have HB1 := Lib.hid hb1; have H1 := Lib.hid (H.out.keep hb1); clear hu1 hb1
  go_wp2_with fail
  refine (last_ok v l kind n b _ H1.out HE.out).mono ?_
  rintro e w2 ⟨rfl, hb2⟩
  have HU2 := Lib.hid (HU1.out.keep hb2); have HB2 := Lib.hid (HB1.out.tr hb2); have H2 := Lib.hid (H1.out.keep hb2); clear hb2 HU1 HB1 H1
  go_wp2_with fail
  refine (count_ok v l kind n _ H2.out HE.out).mono ?_
  rintro e w3 ⟨rfl, hb3⟩
  have HU3 := Lib.hid (HU2.out.keep hb3); have HB3 := Lib.hid (HB2.out.tr hb3); have H3 := Lib.hid (H2.out.keep hb3); clear hb3 HU2 HB2 H2
  go_wp2_with fail
  refine (checkFind_any v l kind _ H3.out hok).mono ?_
  rintro e w4 ⟨rfl, rfl⟩
  rw [HE.out]
  go_wp2_with fail
  refine (findOf_any v l kind n a b _ H3.out hl).mono ?_
  rintro e w5 ⟨u5, rfl, ho5, hb5⟩
  have HV5 := Lib.hid (Sl.own_int ho5 rfl); have HU5 := Lib.hid (HU3.out.keep hb5); have HB5 := Lib.hid (HB3.out.tr hb5); have H5 := Lib.hid (H3.out.keep hb5); clear ho5 hb5 HU3 HB3 H3
  obtain ⟨A, c, hv, hc, hm, hA⟩ := H5.out
  subst hv
  clear hA hm hc
  go_wp2_with fail
  refine (findOf_any _ l kind n 0 l.length _ H5.out hl).mono ?_
  rintro e w6 ⟨u6, rfl, ho6, hb6⟩
  rw [HF.out] at ho6
  have HW6 := Lib.hid (Sl.own_int ho6 rfl); have HV6 := Lib.hid (HV5.out.keep hb6); have HU6 := Lib.hid (HU5.out.keep hb6); have HB6 := Lib.hid (HB5.out.tr hb6); clear ho6 hb6 HU5 HB5 H5 HV5
  obtain ⟨A6, c6, hu6, hc6, hm6, hA6⟩ := HW6.out
  subst hu6
  have HA6 := Lib.hid hA6
  clear hA6 hm6 hc6 HW6
  go_wp2_with fail
  go_loopw [20, 21, 24] (fun x y i wr => ∃ k : Nat, k ≤ (timesUp l kind n l.length).length ∧ i = .int .i64 k ∧ x = .int .i64 (lastB ((timesUp l kind n l.length).take k) b).1 ∧ y = .bool (lastB ((timesUp l kind n l.length).take k) b).2 ∧ wr = w6) (fun _ _ i _ => (timesUp l kind n l.length).length - (intOf i).toNat)
  case atStart => exact ⟨0, by omega, rfl, rfl, rfl, rfl⟩
  case round =>
    obtain ⟨k, hk, rfl, rfl, rfl, rfl⟩ := hrel
    by_cases hlt : k < (timesUp l kind n l.length).length
    · obtain ⟨x, hx⟩ : ∃ x, (timesUp l kind n l.length)[k]? = some x := ⟨_, List.getElem?_eq_getElem hlt⟩
      obtain ⟨bb, bo, rfl, hA⟩ := HA6.out (by omega)
      have hcell := intR.cell hA hx
      have hstep := lastB_take (timesUp l kind n l.length) b k hx
      have HS := Lib.hid hstep
      clear hx hA HA6 hstep
      by_cases hxb : x < b
      · have HS2 : Hid (lastB ((timesUp l kind n l.length).take (k + 1)) b = (x, true)) := by have := HS.out; rw [if_pos hxb] at this; exact this
        go_wp2_with fail
        go_roundw
        case rel => exact ⟨k + 1, by omega, by go_num, by rw [HS2.out], by rw [HS2.out], trivial⟩
        case measure => simp [intOf]; omega
      · have HS2 : Hid (lastB ((timesUp l kind n l.length).take (k + 1)) b = lastB ((timesUp l kind n l.length).take k) b) := by have := HS.out; rw [if_neg hxb] at this; exact this
        go_wp2_with fail
        go_roundw
        case rel => exact ⟨k + 1, by omega, by go_num, by rw [HS2.out], by rw [HS2.out], trivial⟩
        case measure => simp [intOf]; omega
    · obtain rfl : k = (timesUp l kind n l.length).length := by omega
      rw [List.take_of_length_le (Nat.le_refl _)]
      go_wp2_with fail
      refine (indexBegun_any _).mono ?_
      rintro e w7 ⟨rfl, hb7⟩
      have HV7 := Lib.hid (HV6.out.keep hb7); have HU7 := Lib.hid (HU6.out.keep hb7); have HB7 := Lib.hid (HB6.out.tr hb7); clear hb7 HU6 HB6 HV6
      go_wp2_with fail
      refine (sameInts_any _ _ _ _ _ HU7.out HV7.out (by unfold ok64; omega) (by unfold ok64; omega)).mono ?_
      rintro e w8 ⟨rfl, hb8⟩
      have HB8 := Lib.hid (HB7.out.tr hb8); clear hb8 HB7
      simp only [decide_true]
      go_wp2_with fail
      go_ret
      exact ⟨ret_bool (by simp), HB8.out⟩

end Go.Proofs.Ytdfbhlehfbckjaa
