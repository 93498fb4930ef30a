/- LogTells answers true: the walk. Each lemma states its own conditions. -/
import Derived.Test.YtkojeofegoljpaaLogR
namespace Go.Proofs.Ytkojeofegoljpaa
open Go.RowKit

theorem appErr_bad {d : Dk} {l : List Ev} (h : d.err ≠ 0) : appErr d l = d.err := by rw [appErr, if_neg h]
theorem opErr_bad {d : Dk} (h : d.err ≠ 0) : opErr d = d.err := by rw [opErr, if_neg h]
theorem opErr_ok {d : Dk} (h : d.err = 0) : opErr d = 0 ∨ opErr d = 4 := by
  rw [opErr, if_pos h]
  cases loadOf d.kept with
  | none => exact .inr rfl
  | some p => exact .inl rfl
theorem appErr_many {d : Dk} {l : List Ev} (h : d.err = 0) (hl : 60 < l.length) : appErr d l = 2 := by rw [appErr, if_pos h, if_pos hl]
theorem appErr_big {d : Dk} {l : List Ev} (h : d.err = 0) (hl : ¬ 60 < l.length) (hs : l.all evSmall = false) : appErr d l = 3 := by rw [appErr, if_pos h, if_neg hl, hs, if_neg (by decide)]
theorem appErr_ok {d : Dk} {l : List Ev} (h : d.err = 0) (hl : ¬ 60 < l.length) (hs : l.all evSmall = true) : appErr d l = 0 ∨ appErr d l = 4 ∨ appErr d l = 8 := by
  rw [appErr, if_pos h, if_neg hl, hs, if_pos rfl]
  cases loadOf d.kept with
  | none => exact .inr (.inl rfl)
  | some p =>
    simp only []
    split
    · exact .inr (.inr rfl)
    · exact .inl rfl

set_option maxRecDepth 20000 in
set_option maxHeartbeats 4000000 in
theorem lTells_any (d : Dk) (val lv : Value) (l : List Ev) (w : World) (h : DkV w d val) (ho : d.ok) (hl : Sl evR w lv l) (hll : l.length ≤ 140737488351232) :
    Calls Try.prog 5 #[val, lv] w fun r w' => r = .returned (.bool true) ∧ Bel w w' := by
  have HAP : Hid (∀ val W, DkV W d val → Bel w W → Calls Try.prog 22 #[val, lv] W fun r w' => ∃ X1 k1 g1 X2 k2 g2 Wv kw cw, r = .returned (.tuple #[.agg #[.slice X1 k1 g1, .slice X2 k2 g2], .slice Wv kw cw, .int .i64 (appErr d l)]) ∧ (appErr d l ≠ 0 → k1 = 0 ∧ kw = 0) ∧ Bel W w') := Lib.hid (fun val W hv hb => (append_any d val lv l W hv ho (hl.keep hb) hll).mono fun r w' h => by
    obtain ⟨⟨v, wv, hr, h1, h2⟩, hb⟩ := h
    by_cases he : appErr d l = 0
    · have hlo : ∃ p, loadOf d.kept = some p := by
        unfold appErr at he
        split at he
        · split at he
          · cases he
          · split at he
            · cases hlo : loadOf d.kept with
              | none => rw [hlo] at he; cases he
              | some p => exact ⟨p, rfl⟩
            · cases he
        · exact absurd he ‹_›
      obtain ⟨⟨t, u, bs⟩, hlo⟩ := hlo
      obtain ⟨hd, ps, hw, -, -⟩ := h2 he t u bs hlo
      obtain ⟨X1, g1, X2, g2, rfl, -, -⟩ := hd.lit
      have hwv : ∃ A n c, wv = .slice A n c := by
        rcases hw.2 with ⟨rfl, _⟩ | ⟨_, _, _, rfl, _⟩ <;> exact ⟨_, _, _, rfl⟩
      obtain ⟨A, n, c, rfl⟩ := hwv
      exact ⟨_, _, _, _, _, _, _, _, _, hr, fun h0 => absurd he h0, hb⟩
    · obtain ⟨rfl, rfl⟩ := h1 he
      exact ⟨none, 0, 0, none, 0, 0, none, 0, 0, hr, fun _ => ⟨rfl, rfl⟩, hb⟩)
  have HOP : Hid (∀ val W, DkV W d val → Calls Try.prog 23 #[val] W fun r w' => ∃ Wv kw cw, r = .returned (.tuple #[.slice Wv kw cw, .int .i64 (opErr d)]) ∧ (opErr d ≠ 0 → kw = 0) ∧ Bel W w') := Lib.hid (fun val W hv => (lopen_any d val W hv ho).mono fun r w' h => by
    obtain ⟨⟨v, hr, h1, h2⟩, hb⟩ := h
    by_cases he : opErr d = 0
    · have hlo : ∃ p, loadOf d.kept = some p := by
        unfold opErr at he
        split at he
        · cases hlo : loadOf d.kept with
          | none => rw [hlo] at he; cases he
          | some p => exact ⟨p, rfl⟩
        · exact absurd he ‹_›
      obtain ⟨⟨t, u, bs⟩, hlo⟩ := hlo
      obtain ⟨A, c, rfl, -⟩ := (h2 he t u bs hlo).sl
      exact ⟨_, _, _, hr, fun h0 => absurd he h0, hb⟩
    · obtain rfl := h1 he
      exact ⟨none, 0, 0, hr, fun _ => rfl, hb⟩)
  have HCD := Lib.hid (fun val W h => checkDisk_any d val W h ho)
  have HBG := Lib.hid logBegun_any
  have HSM := Lib.hid (fun W (hb : Bel w W) => areSmall_any lv l W (hl.keep hb) hll)
  have HH := Lib.hid h
  have HF1 : Hid (d.err ≠ 0 → appErr d l = d.err ∧ opErr d = d.err) := Lib.hid (fun h => ⟨appErr_bad h, opErr_bad h⟩)
  have HF2 : Hid (d.err = 0 → opErr d = 0 ∨ opErr d = 4) := Lib.hid opErr_ok
  have HF3 : Hid (d.err = 0 → 60 < l.length → appErr d l = 2) := Lib.hid appErr_many
  have HF4 : Hid (d.err = 0 → ¬ 60 < l.length → l.all evSmall = false → appErr d l = 3) := Lib.hid appErr_big
  have HF5 : Hid (d.err = 0 → ¬ 60 < l.length → l.all evSmall = true → appErr d l = 0 ∨ appErr d l = 4 ∨ appErr d l = 8) := Lib.hid appErr_ok
  obtain ⟨A1, c1, A2, c2, rfl, -, -⟩ := h
  obtain ⟨A3, c3, rfl, -, -, -⟩ := hl
  clear ho
  generalize appErr d l = E at *
  generalize opErr d = O at *
  generalize d.err = V at *
  generalize l.all evSmall = SM at *
  have HQ := Lib.hid (Blk.new w 25 #[.slice A1 d.kept.length c1, .slice A2 d.written.length c2])
  have HB := Lib.hid ((Bel.rfl_ w).al (.cells #[.slice A1 d.kept.length c1, .slice A2 d.written.length c2] 25))
  go_enter Try.func5, Try.ntmps5
  go_upto_region 1 with fail
  generalize d.kept.length = n1 at *
  generalize d.written.length = n2 at *
  generalize w.alloc (.cells #[.slice A1 n1 c1, .slice A2 n2 c2] 25) = W0 at *
  have q0 := HQ.out.cell (i := 0) (v := .slice A1 n1 c1) rfl
  have q1 := HQ.out.cell (i := 1) (v := .slice A2 n2 c2) rfl
  go_wp2_with fail
  refine (HAP.out _ _ (HH.out.keep HB.out) HB.out).mono ?_
  rintro r w1 ⟨X1, k1, g1, X2, k2, g2, Wv, kw, cw, rfl, hz1, hb1⟩
  have HZ1 := Lib.hid hz1
  have HX := Lib.hid (Blk.new w1 25 #[.slice X1 k1 g1, .slice X2 k2 g2])
  have hal := (Bel.rfl_ w1).al (.cells #[.slice X1 k1 g1, .slice X2 k2 g2] 25)
  replace HB := Lib.hid ((HB.out.tr hb1).tr hal)
  replace HQ := Lib.hid ((HQ.out.keep hb1).keep hal)
  clear hb1 hz1 hal q0 q1 HAP
  go_upto_region 2 with fail
  generalize w1.alloc (.cells #[.slice X1 k1 g1, .slice X2 k2 g2] 25) = W1 at *
  generalize w1.heap.size = X at *
  have q0 := HQ.out.cell (i := 0) (v := .slice A1 n1 c1) rfl
  have q1 := HQ.out.cell (i := 1) (v := .slice A2 n2 c2) rfl
  go_wp2_with fail
  refine (HOP.out _ _ (HH.out.keep HB.out)).mono ?_
  rintro r w2 ⟨Ov, ko, co, rfl, hz2, hb2⟩
  have HZ2 := Lib.hid hz2
  replace HB := Lib.hid (HB.out.tr hb2)
  replace HQ := Lib.hid (HQ.out.keep hb2)
  replace HX := Lib.hid (HX.out.keep hb2)
  clear hb2 hz2 q0 q1 HOP
  have q0 := HQ.out.cell (i := 0) (v := .slice A1 n1 c1) rfl
  have q1 := HQ.out.cell (i := 1) (v := .slice A2 n2 c2) rfl
  go_wp2_with fail
  refine (HCD.out _ _ (HH.out.keep HB.out)).mono ?_
  rintro r w3 ⟨rfl, hb3⟩
  replace HB := Lib.hid (HB.out.tr hb3)
  replace HX := Lib.hid (HX.out.keep hb3)
  clear hb3 q0 q1 HCD HQ HH
  go_wp2_with fail
  refine (HBG.out _).mono ?_
  rintro r w4 ⟨rfl, hb4⟩
  replace HB := Lib.hid (HB.out.tr hb4)
  replace HX := Lib.hid (HX.out.keep hb4)
  clear hb4 HBG
  have x0 := HX.out.cell (i := 0) (v := .slice X1 k1 g1) rfl
  by_cases hv : V = 0
  rotate_left
  · obtain ⟨rfl, rfl⟩ := HF1.out hv
    obtain ⟨rfl, rfl⟩ := HZ1.out hv
    obtain rfl := HZ2.out hv
    have hvb : (O != 0) = true := by simpa using hv
    clear HF1 HF2 HF3 HF4 HF5 HZ1 HZ2 hv
    go_wp2
    go_ret
    exact ⟨rfl, HB.out⟩
  subst hv
  have HF2 := HF2.out rfl
  have HF3 := Lib.hid (HF3.out rfl)
  have HF4 := Lib.hid (HF4.out rfl)
  have HF5 := Lib.hid (HF5.out rfl)
  have hko : O = 4 → ko = 0 := fun h => HZ2.out (by rw [h]; decide)
  by_cases h60 : 60 < l.length
  · obtain rfl := HF3.out h60
    obtain ⟨rfl, rfl⟩ := HZ1.out (by decide)
    have d60 : decide ((60 : Int) < l.length) = true := decide_eq_true (by omega)
    clear HF1 HF3 HF4 HF5 HZ1 HZ2
    rcases HF2 with rfl | rfl
    · clear hko
      go_wp2
      go_ret
      exact ⟨rfl, HB.out⟩
    · obtain rfl := hko rfl
      clear hko
      go_wp2
      go_ret
      exact ⟨rfl, HB.out⟩
  · have d60 : decide ((60 : Int) < l.length) = false := decide_eq_false (by omega)
    cases SM with
    | false =>
      obtain rfl := HF4.out h60 rfl
      obtain ⟨rfl, rfl⟩ := HZ1.out (by decide)
      clear HF1 HF3 HF4 HF5 HZ1 HZ2 h60
      rcases HF2 with rfl | rfl
      · clear hko
        go_wp2_with fail
        refine (HSM.out _ HB.out).mono ?_
        rintro r w5 ⟨rfl, hb5⟩
        replace HB := Lib.hid (HB.out.tr hb5)
        clear hb5
        go_wp2
        go_ret
        exact ⟨rfl, HB.out⟩
      · obtain rfl := hko rfl
        clear hko
        go_wp2_with fail
        refine (HSM.out _ HB.out).mono ?_
        rintro r w5 ⟨rfl, hb5⟩
        replace HB := Lib.hid (HB.out.tr hb5)
        clear hb5
        go_wp2
        go_ret
        exact ⟨rfl, HB.out⟩
    | true =>
      have HE := HF5.out h60 rfl
      clear HF1 HF3 HF4 HF5 HZ2 h60
      rcases HE with rfl | rfl | rfl
      · clear HZ1
        rcases HF2 with rfl | rfl
        · clear hko
          go_wp2_with fail
          refine (HSM.out _ HB.out).mono ?_
          rintro r w5 ⟨rfl, hb5⟩
          replace HB := Lib.hid (HB.out.tr hb5)
          clear hb5
          go_wp2
          go_ret
          exact ⟨rfl, HB.out⟩
        · obtain rfl := hko rfl
          clear hko
          go_wp2_with fail
          refine (HSM.out _ HB.out).mono ?_
          rintro r w5 ⟨rfl, hb5⟩
          replace HB := Lib.hid (HB.out.tr hb5)
          clear hb5
          go_wp2
          go_ret
          exact ⟨rfl, HB.out⟩
      all_goals
        obtain ⟨rfl, rfl⟩ := HZ1.out (by decide)
        clear HZ1
        rcases HF2 with rfl | rfl
        · clear hko
          go_wp2_with fail
          refine (HSM.out _ HB.out).mono ?_
          rintro r w5 ⟨rfl, hb5⟩
          replace HB := Lib.hid (HB.out.tr hb5)
          clear hb5
          go_wp2
          go_ret
          exact ⟨rfl, HB.out⟩
        · obtain rfl := hko rfl
          clear hko
          go_wp2_with fail
          refine (HSM.out _ HB.out).mono ?_
          rintro r w5 ⟨rfl, hb5⟩
          replace HB := Lib.hid (HB.out.tr hb5)
          clear hb5
          go_wp2
          go_ret
          exact ⟨rfl, HB.out⟩

end Go.Proofs.Ytkojeofegoljpaa
