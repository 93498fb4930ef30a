/- IndexHangs: the walk. -/
import Derived.Test.YtdfbhlehfbckjaaIdxG
namespace Go.Proofs.Ytdfbhlehfbckjaa
open Go.RowKit

theorem hangs_bad (v : Value) (l : List Ev) (kind n cut : Int) (w : World) (h : Sl evR w v l) (hok : ok64 l.length) (he : (findErr l.length kind != 0) = true) :
    Calls Try.prog 4 #[v, .int .i64 kind, .int .i64 n, .int .i64 cut] w fun r w' => r = .returned (.bool true) ∧ Bel w w' := by
  have H := Lib.hid h
  go_enter Try.func4, Try.ntmps4
  go_wp2_with fail
  refine (indexBegun_any _).mono ?_
  rintro e w1 ⟨rfl, hb1⟩
  have HB1 := Lib.hid hb1; have H1 := Lib.hid (H.out.keep hb1); clear hb1
  obtain ⟨A, c, hv, hc, hm, hA⟩ := H1.out
  subst hv
  clear hA hm hc
  go_wp2_with fail
  refine (find_bad _ l kind n 0 l.length _ H1.out hok he).mono ?_
  rintro e w2 ⟨rfl, hb2⟩
  have HB2 := Lib.hid (HB1.out.tr hb2); clear hb2 HB1 H1
  go_wp2_with fail
  go_ret
  exact ⟨rfl, HB2.out⟩

theorem last_cases (l : List Ev) (kind n cut : Int) : (lastB (timesUp l kind n l.length) cut = (0, false) ∧ findUp l kind n 0 cut l.length = []) ∨
    ∃ x, lastB (timesUp l kind n l.length) cut = (x, true) ∧ (findUp l kind n 0 cut l.length)[(findUp l kind n 0 cut l.length).length - 1]? = some x ∧ 0 < (findUp l kind n 0 cut l.length).length := by
  rw [lastB_eq, ← findUp_lo l kind n cut]
  cases h : (findUp l kind n 0 cut l.length).getLast? with
  | none => exact .inl ⟨rfl, List.getLast?_eq_none_iff.1 h⟩
  | some x =>
    refine .inr ⟨x, rfl, by rw [← List.getLast?_eq_getElem?]; exact h, ?_⟩
    cases hl : findUp l kind n 0 cut l.length with
    | nil => rw [hl] at h; cases h
    | cons a r => simp

set_option maxHeartbeats 2000000 in
theorem hangs_ok (v : Value) (l : List Ev) (kind n cut : Int) (w : World) (h : Sl evR w v l) (he : findErr l.length kind = 0) :
    Calls Try.prog 4 #[v, .int .i64 kind, .int .i64 n, .int .i64 cut] w fun r w' => r = .returned (.bool true) ∧ Bel w w' := by
  have hl := findErr_ok he
  have hok : ok64 l.length := by unfold ok64; omega
  have hlen0 := timesUp_len l kind n l.length
  have hlen1 := findUp_len l kind n 0 cut l.length
  have hlen2 := findUp_len l kind n cut l.length l.length
  have H := Lib.hid h
  have HE := Lib.hid he; clear he
  have HF := Lib.hid (findUp_all l kind n)
  have HSP := Lib.hid (split_all l kind n cut)
  have HLC := Lib.hid (last_cases l kind n cut)
  go_enter Try.func4, Try.ntmps4
  go_wp2_with fail
  refine (indexBegun_any _).mono ?_
  rintro e w1 ⟨rfl, hb1⟩
  have HB1 := Lib.hid hb1; have H1 := Lib.hid (H.out.keep hb1); clear hb1 H
  obtain ⟨A, c, hv, hc, hm, hA⟩ := H1.out
  subst hv
  clear hA hm hc
  go_wp2_with fail
  refine (find_ok _ l kind n 0 l.length _ H1.out HE.out).mono ?_
  rintro e w2 ⟨ua, rfl, hu, hb2⟩
  rw [HF.out] at hu
  have HU2 := Lib.hid hu; have HB2 := Lib.hid (HB1.out.tr hb2); have H2 := Lib.hid (H1.out.keep hb2); clear hu hb2 HB1 H1
  obtain ⟨A2, c2, hv, hc2, hm2, hA2⟩ := HU2.out
  subst hv
  clear hA2 hm2 hc2
  go_wp2_with fail
  refine (find_ok _ l kind n 0 cut _ H2.out HE.out).mono ?_
  rintro e w3 ⟨u3, rfl, hu, hb3⟩
  have HV3 := Lib.hid hu; have HU3 := Lib.hid (HU2.out.keep hb3); have HB3 := Lib.hid (HB2.out.tr hb3); have H3 := Lib.hid (H2.out.keep hb3); clear hu hb3 HB2 H2 HU2
  obtain ⟨A3, c3, hv, hc3, hm3, hA3⟩ := HV3.out
  subst hv
  clear hA3 hm3 hc3
  go_wp2_with fail
  refine (find_ok _ l kind n cut l.length _ H3.out HE.out).mono ?_
  rintro e w4 ⟨u4, rfl, hu, hb4⟩
  have HW4 := Lib.hid hu; have HV4 := Lib.hid (HV3.out.keep hb4); have HU4 := Lib.hid (HU3.out.keep hb4); have HB4 := Lib.hid (HB3.out.tr hb4); have H4 := Lib.hid (H3.out.keep hb4); clear hu hb4 HB3 H3 HU3 HV3
  obtain ⟨A4, c4, hv, hc4, hm4, hA4⟩ := HW4.out
  subst hv
  clear hA4 hm4 hc4
  go_wp2_with fail
  refine (last_ok _ l kind n cut _ H4.out HE.out).mono ?_
  rintro e w5 ⟨rfl, hb5⟩
  have HW5 := Lib.hid (HW4.out.keep hb5); have HV5 := Lib.hid (HV4.out.keep hb5); have HU5 := Lib.hid (HU4.out.keep hb5); have HB5 := Lib.hid (HB4.out.tr hb5); have H5 := Lib.hid (H4.out.keep hb5); clear hb5 HB4 H4 HU4 HV4 HW4
  go_wp2_with fail
  refine (count_ok _ l kind n _ H5.out HE.out).mono ?_
  rintro e w6 ⟨rfl, hb6⟩
  have HW6 := Lib.hid (HW5.out.keep hb6); have HV6 := Lib.hid (HV5.out.keep hb6); have HU6 := Lib.hid (HU5.out.keep hb6); have HB6 := Lib.hid (HB5.out.tr hb6); clear hb6 HB5 H5 HU5 HV5 HW5
  have hneq : (((timesUp l kind n l.length).length : Int) != ((timesUp l kind n l.length).length : Int)) = false := by simp
  by_cases hr : 0 ≤ cut ∧ cut ≤ l.length
  · obtain ⟨hr1, hr2⟩ := hr
    obtain ⟨A3', c3', hv3, hc3', hm3', hA3'⟩ := HV6.out
    injection hv3 with hv3a hv3b hv3c
    subst hv3a hv3c
    obtain ⟨A4', c4', hv4, hc4', hm4', hA4'⟩ := HW6.out
    injection hv4 with hv4a hv4b hv4c
    subst hv4a hv4c
    have hown0 := World.ownsRow_made (base := w6.heap.size) (e := 3) (size := 1) w6 #[] 0 (Nat.le_refl _) (Nat.zero_le _) rfl
    have HO := Lib.hid hown0; clear hown0
    have HB := Lib.hid ((Bel.rfl_ w6).al (.cells #[] 3))
    have HS3 := Lib.hid hm3'.2; have HS4 := Lib.hid hm4'.2
    have HC3 := Lib.hid (Sl.src hA3'); have HC4 := Lib.hid (Sl.src hA4'); clear hc3' hm3' hc4' hm4' hA3' hA4' hv3b hv4b
    have hsum : (findUp l kind n 0 cut l.length).length + (findUp l kind n cut l.length l.length).length ≤ 8000 := by omega
    have HSUM := Lib.hid hsum; clear hsum
    go_wp2_with (first
      | (at_builtin; refine wpl_appAll_g (w6.alloc (.cells #[] 3)) (by go_simp) (.tmp 99) (.tmp 100) 23 rfl w6.heap.size elInt _ 0 [] rfl HO.out _ (findUp l kind n 0 cut l.length).length c3 ((findUp l kind n 0 cut l.length).map (Value.int .i64)) rfl (by simp) HS3.out (fun hp => (HC3.out hp).elim fun b h => h.elim fun o h => ⟨b, o, h.1, h.2.keep HB.out⟩) (ints_one _) (by simp only [maxLen]; have := HSUM.out; omega) (by have := HSUM.out; omega) HB.out.size ?_; intro v7 w7 hown hg _; have HO1 := Lib.hid hown; have HB1 := Lib.hid (Below.ofGrown HB.out HO.out hg (Nat.le_refl _) HB.out.size); clear hown hg HO HB)
      | (at_builtin; go_loud (refine wpl_appAll_g w7 (by go_simp) (.tmp 101) (.tmp 102) 23 rfl w6.heap.size elInt _ (0 + (findUp l kind n 0 cut l.length).length) _ rfl HO1.out _ (findUp l kind n cut l.length l.length).length c4 ((findUp l kind n cut l.length l.length).map (Value.int .i64)) rfl (by simp) HS4.out (fun hp => (HC4.out hp).elim fun b h => h.elim fun o h => ⟨b, o, h.1, h.2.keep HB1.out⟩) (ints_one _) (by simp only [maxLen]; have := HSUM.out; omega) (by have := HSUM.out; omega) HB1.out.size ?_); intro v8 w8 hown hg _; have HO2 := Lib.hid hown; have HB2 := Lib.hid (Below.ofGrown HB1.out HO1.out hg (Nat.le_refl _) HB1.out.size); clear hown hg HO1 HB1))
    have hs8 : Sl intR w8 v8 (findUp l kind n 0 cut l.length ++ findUp l kind n cut l.length l.length) := Sl.own_int (n := (findUp l kind n 0 cut l.length).length + (findUp l kind n cut l.length l.length).length) (by simpa using HO2.out) (by simp)
    rw [HSP.out] at hs8
    have HS8 := Lib.hid hs8; have HV8 := Lib.hid (HV6.out.keep HB2.out); have HU8 := Lib.hid (HU6.out.keep HB2.out); have HB8 := Lib.hid (HB6.out.tr HB2.out); clear hs8 HO2 HB2 HV6 HU6 HB6 HC3 HC4 HS3 HS4 HW6
    refine (sameInts_any _ _ _ _ _ HS8.out HU8.out (by unfold ok64; omega) (by unfold ok64; omega)).mono ?_
    rintro e w9 ⟨rfl, hb9⟩
    have HV9 := Lib.hid (HV8.out.keep hb9); have HB9 := Lib.hid (HB8.out.tr hb9); clear hb9 HB8 HU8 HS8 HV8
    simp only [decide_true]
    rcases HLC.out with ⟨hL, hn⟩ | ⟨x, hL, hx, hp⟩
    · rw [hL, hn]
      go_wp2_with fail
      go_ret
      exact ⟨ret_bool (by simp), HB9.out⟩
    · rw [hL]
      obtain ⟨A3', c3', hv3, hc3', hm3', hA3'⟩ := HV9.out
      injection hv3 with hv3a hv3b hv3c
      subst hv3a hv3c
      obtain ⟨b, o, rfl, hcell⟩ := hA3' hp
      obtain ⟨m, hm⟩ : ∃ m, (findUp l kind n 0 cut l.length).length = m + 1 := ⟨_, (Nat.sub_add_cancel hp).symm⟩
      rw [hm, Nat.add_sub_cancel] at hx
      have hcx := intR.cell hcell hx
      rw [hm]
      clear hcell hA3' hm3' hc3' hv3b hx hp HV9
      go_wp2_with fail
      go_ret
      exact ⟨ret_bool (by simp), HB9.out⟩
  · have hd : 0 ≤ cut → ¬ (cut ≤ (l.length : Int)) := fun h1 h2 => hr ⟨h1, h2⟩
    clear hr
    by_cases h0 : 0 ≤ cut
    · have h1 := hd h0
      have hd1 : decide (cut ≤ (l.length : Int)) = false := by simpa using h1
      have hd0 : decide (cut ≥ 0) = true := by simpa using h0
      rcases HLC.out with ⟨hL, hn⟩ | ⟨x, hL, hx, hp⟩
      · rw [hL, hn]
        go_wp2_with fail
        go_ret
        exact ⟨ret_bool (by simp), HB6.out⟩
      · rw [hL]
        obtain ⟨A3', c3', hv3, hc3', hm3', hA3'⟩ := HV6.out
        injection hv3 with hv3a hv3b hv3c
        subst hv3a hv3c
        obtain ⟨b, o, rfl, hcell⟩ := hA3' hp
        obtain ⟨m, hm⟩ : ∃ m, (findUp l kind n 0 cut l.length).length = m + 1 := ⟨_, (Nat.sub_add_cancel hp).symm⟩
        rw [hm, Nat.add_sub_cancel] at hx
        have hcx := intR.cell hcell hx
        rw [hm]
        clear hcell hA3' hm3' hc3' hv3b hx hp HV6
        go_wp2_with fail
        go_ret
        exact ⟨ret_bool (by simp), HB6.out⟩
    · have hd0 : decide (cut ≥ 0) = false := by simpa using h0
      rcases HLC.out with ⟨hL, hn⟩ | ⟨x, hL, hx, hp⟩
      · rw [hL, hn]
        go_wp2_with fail
        go_ret
        exact ⟨ret_bool (by simp), HB6.out⟩
      · rw [hL]
        obtain ⟨A3', c3', hv3, hc3', hm3', hA3'⟩ := HV6.out
        injection hv3 with hv3a hv3b hv3c
        subst hv3a hv3c
        obtain ⟨b, o, rfl, hcell⟩ := hA3' hp
        obtain ⟨m, hm⟩ : ∃ m, (findUp l kind n 0 cut l.length).length = m + 1 := ⟨_, (Nat.sub_add_cancel hp).symm⟩
        rw [hm, Nat.add_sub_cancel] at hx
        have hcx := intR.cell hcell hx
        rw [hm]
        clear hcell hA3' hm3' hc3' hv3b hx hp HV6
        go_wp2_with fail
        go_ret
        exact ⟨ret_bool (by simp), HB6.out⟩

theorem hangs_any (v : Value) (l : List Ev) (kind n cut : Int) (w : World) (h : Sl evR w v l) (hok : ok64 l.length) :
    Calls Try.prog 4 #[v, .int .i64 kind, .int .i64 n, .int .i64 cut] w fun r w' => r = .returned (.bool true) ∧ Bel w w' := by
  by_cases he : findErr l.length kind = 0
  · exact hangs_ok v l kind n cut w h he
  · exact hangs_bad v l kind n cut w h hok (by simpa using he)

end Go.Proofs.Ytdfbhlehfbckjaa
