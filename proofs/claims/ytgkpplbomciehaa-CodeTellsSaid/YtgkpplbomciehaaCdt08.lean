/- One part of an expression of a program, by the program: walked. Each lemma states its own conditions. -/
import Derived.Test.YtgkpplbomciehaaCdt05
import Derived.Test.YtgkpplbomciehaaCdt07
namespace Go.Proofs.Ytgkpplbomciehaa
open Go.RowKit
theorem args_any (k : Int) (w : World) : Calls Try.prog 157 #[.int .i64 k] w fun r w' => r = .returned (.int .i64 (arityE k)) ∧ w = w' := by
  by_cases h1 : k < 1
  · have e : Hid (arityE k = -1) := Lib.hid (by unfold arityE; rw [if_pos (Or.inl h1)])
    go_enter Try.func157, Try.ntmps157
    go_wp2
    go_ret
    exact ⟨by rw [e.out]; rfl, rfl⟩
  by_cases h2 : 10 < k
  · have e : Hid (arityE k = -1) := Lib.hid (by unfold arityE; rw [if_pos (Or.inr h2)])
    go_enter Try.func157, Try.ntmps157
    go_wp2
    go_ret
    exact ⟨by rw [e.out]; rfl, rfl⟩
  by_cases h3 : k ≤ 2
  · have e : Hid (arityE k = 0) := Lib.hid (by unfold arityE; rw [if_neg (by omega), if_pos h3])
    go_enter Try.func157, Try.ntmps157
    go_wp2
    go_ret
    exact ⟨by rw [e.out]; rfl, rfl⟩
  by_cases h4 : k = 3
  · subst h4
    go_enter Try.func157, Try.ntmps157
    go_wp2
    go_ret
    exact ⟨rfl, rfl⟩
  · have e : Hid (arityE k = 2) := Lib.hid (by unfold arityE; rw [if_neg (by omega), if_neg h3, if_neg h4])
    go_enter Try.func157, Try.ntmps157
    go_wp2
    go_ret
    exact ⟨by rw [e.out]; rfl, rfl⟩
set_option maxRecDepth 20000 in
set_option maxHeartbeats 4000000 in
theorem part_any (z : List Int) (hz : ∀ n ∈ z, 0 ≤ n) (e : PE) (val zv : Value) (w : World) (h : PEV w e val) (hs : Sl intR w zv z) :
    Calls Try.prog 145 #[val, zv] w fun r w' => r = .returned (.int .i64 (partP z e)) ∧ Bel w w' := by
  obtain ⟨v, rfl, A, c, rfl, hc, hm, -⟩ := h
  obtain ⟨Z, cz, rfl, hzc, hzm, hZ⟩ := hs
  have HZ := Lib.hid hZ
  have hlm : e.args.length ≤ 9223372036854775807 := by have := hm.1; simp only [maxLen] at this; omega
  have hlz : z.length ≤ 9223372036854775807 := by have := hzm.1; simp only [maxLen] at this; omega
  have HB : Hid (Bel w (w.alloc (.cells #[.int .i64 e.kind, .int .i64 e.n, .slice A e.args.length c] 47))) := Lib.hid ((Bel.rfl_ w).al _)
  have HAR : Hid (∀ W, Calls Try.prog 157 #[.int .i64 e.kind] W fun r w' => r = .returned (.int .i64 (arityE e.kind)) ∧ W = w') := Lib.hid (args_any _)
  clear hc hm hzc hzm hZ
  by_cases h1 : arityE e.kind < 0
  · have HR : Hid (partP z e = 7) := Lib.hid (by unfold partP; rw [if_pos h1])
    have d1 : decide (arityE e.kind < 0) = true := decide_eq_true h1
    clear h1 HZ hz
    generalize partP z e = T at *
    generalize arityE e.kind = ar at *
    generalize e.kind = k at *
    generalize e.n = n at *
    generalize e.args.length = L at *
    go_enter Try.func145, Try.ntmps145
    go_wp2_with fail
    refine (HAR.out _).mono ?_
    rintro r w1 ⟨rfl, rfl⟩
    go_wp2
    go_ret
    exact ⟨by rw [HR.out]; rfl, HB.out⟩
  have d1 : decide (arityE e.kind < 0) = false := decide_eq_false h1
  by_cases h2 : (e.args.length : Int) ≠ arityE e.kind
  · have HR : Hid (partP z e = 1) := Lib.hid (by unfold partP; rw [if_neg h1, if_pos h2])
    have d2 : ((e.args.length : Int) != arityE e.kind) = true := by simpa using h2
    clear h1 h2 HZ hz
    generalize partP z e = T at *
    generalize arityE e.kind = ar at *
    generalize e.kind = k at *
    generalize e.n = n at *
    generalize e.args.length = L at *
    go_enter Try.func145, Try.ntmps145
    go_wp2_with fail
    refine (HAR.out _).mono ?_
    rintro r w1 ⟨rfl, rfl⟩
    go_wp2
    go_ret
    exact ⟨by rw [HR.out]; rfl, HB.out⟩
  have d2 : ((e.args.length : Int) != arityE e.kind) = false := by simpa using h2
  by_cases k1 : e.kind = 1
  · have e1 : (e.kind == 1) = true := by rw [k1]; rfl
    by_cases hn : -9999999 ≤ e.n ∧ e.n ≤ 9999999
    · have HR : Hid (partP z e = 0) := Lib.hid (by unfold partP; rw [if_neg h1, if_neg h2, if_pos k1, if_pos hn])
      obtain ⟨hn1, hn2⟩ := hn
      have dn : decide (e.n < -9999999) = false := decide_eq_false (by omega)
      have dm : decide (e.n > 9999999) = false := decide_eq_false (by omega)
      clear h1 h2 HZ hz k1 hn1 hn2
      generalize partP z e = T at *
      generalize arityE e.kind = ar at *
      generalize e.kind = k at *
      generalize e.n = n at *
      generalize e.args.length = L at *
      go_enter Try.func145, Try.ntmps145
      go_wp2_with fail
      refine (HAR.out _).mono ?_
      rintro r w1 ⟨rfl, rfl⟩
      go_wp2
      go_ret
      exact ⟨by rw [HR.out]; rfl, HB.out⟩
    have HR : Hid (partP z e = 3) := Lib.hid (by unfold partP; rw [if_neg h1, if_neg h2, if_pos k1, if_neg hn])
    by_cases hn1 : e.n < -9999999
    · have dn : decide (e.n < -9999999) = true := decide_eq_true hn1
      clear h1 h2 HZ hz k1 hn
      generalize partP z e = T at *
      generalize arityE e.kind = ar at *
      generalize e.kind = k at *
      generalize e.n = n at *
      generalize e.args.length = L at *
      go_enter Try.func145, Try.ntmps145
      go_wp2_with fail
      refine (HAR.out _).mono ?_
      rintro r w1 ⟨rfl, rfl⟩
      go_wp2
      go_ret
      exact ⟨by rw [HR.out]; rfl, HB.out⟩
    · have dn : decide (e.n < -9999999) = false := decide_eq_false hn1
      have dm : decide (e.n > 9999999) = true := decide_eq_true (by omega)
      clear h1 h2 HZ hz k1 hn hn1
      generalize partP z e = T at *
      generalize arityE e.kind = ar at *
      generalize e.kind = k at *
      generalize e.n = n at *
      generalize e.args.length = L at *
      go_enter Try.func145, Try.ntmps145
      go_wp2_with fail
      refine (HAR.out _).mono ?_
      rintro r w1 ⟨rfl, rfl⟩
      go_wp2
      go_ret
      exact ⟨by rw [HR.out]; rfl, HB.out⟩
  have e1 : (e.kind == 1) = false := by simpa using k1
  by_cases k3 : e.kind ≤ 3
  · have hk0 : 1 ≤ e.kind := by
      unfold arityE at h1
      split at h1 <;> omega
    by_cases hn : 0 ≤ e.n ∧ e.n < z.length
    · obtain ⟨x, hx⟩ : ∃ x, z[e.n.toNat]? = some x := ⟨_, List.getElem?_eq_getElem (by omega)⟩
      have hx0 := hz x (List.mem_of_getElem? hx)
      have hgx : z.getD e.n.toNat 0 = x := by rw [List.getD_eq_getElem?_getD, hx]; rfl
      obtain ⟨b, o, rfl, hA⟩ := HZ.out (by omega)
      have cx := HB.out.cell (intR.cell hA hx)
      have HR0 : Hid (partP z e = if e.kind = 2 ∧ 0 < x ∨ e.kind = 3 ∧ x = 0 then 7 else 0) := Lib.hid (by unfold partP; rw [if_neg h1, if_neg h2, if_neg k1, if_pos k3, if_pos hn, hgx])
      obtain ⟨hn0, hn1⟩ := hn
      have dn : decide (e.n < 0) = false := decide_eq_false (by omega)
      have dm : decide (e.n ≥ (z.length : Int)) = false := decide_eq_false (by omega)
      clear hA hx hgx hz HZ h1 h2
      by_cases k2 : e.kind = 2
      · have e2 : (e.kind == 2) = true := by rw [k2]; rfl
        have e3 : (e.kind == 3) = false := by rw [k2]; rfl
        by_cases hx1 : 0 < x
        · have HR : Hid (partP z e = 7) := Lib.hid (by rw [HR0.out, if_pos (by omega)])
          have dx : decide (x > 0) = true := decide_eq_true hx1
          clear k1 k2 k3 hk0 HR0 hx0 hx1
          generalize partP z e = T at *
          generalize arityE e.kind = ar at *
          generalize e.kind = k at *
          generalize e.n = n at *
          generalize e.args.length = L at *
          go_enter Try.func145, Try.ntmps145
          go_wp2_with fail
          refine (HAR.out _).mono ?_
          rintro r w1 ⟨rfl, rfl⟩
          go_wp2
          go_quiet (fail)
          go_wp2
          go_ret
          exact ⟨by rw [HR.out]; rfl, HB.out.drN _⟩
        · have HR : Hid (partP z e = 0) := Lib.hid (by rw [HR0.out, if_neg (by omega)])
          have dx : decide (x > 0) = false := decide_eq_false hx1
          clear k1 k2 k3 hk0 HR0 hx0 hx1
          generalize partP z e = T at *
          generalize arityE e.kind = ar at *
          generalize e.kind = k at *
          generalize e.n = n at *
          generalize e.args.length = L at *
          go_enter Try.func145, Try.ntmps145
          go_wp2_with fail
          refine (HAR.out _).mono ?_
          rintro r w1 ⟨rfl, rfl⟩
          go_wp2
          go_quiet (fail)
          go_wp2
          go_ret
          exact ⟨by rw [HR.out]; rfl, HB.out.drN _⟩
      · have e2 : (e.kind == 2) = false := by simpa using k2
        have e3 : (e.kind == 3) = true := by rw [show e.kind = 3 by omega]; rfl
        by_cases hx1 : 0 < x
        · have HR : Hid (partP z e = 0) := Lib.hid (by rw [HR0.out, if_neg (by omega)])
          have dx : decide (x > 0) = true := decide_eq_true hx1
          clear k1 k2 k3 hk0 HR0 hx0 hx1
          generalize partP z e = T at *
          generalize arityE e.kind = ar at *
          generalize e.kind = k at *
          generalize e.n = n at *
          generalize e.args.length = L at *
          go_enter Try.func145, Try.ntmps145
          go_wp2_with fail
          refine (HAR.out _).mono ?_
          rintro r w1 ⟨rfl, rfl⟩
          go_wp2
          go_quiet (fail)
          go_wp2
          go_ret
          exact ⟨by rw [HR.out]; rfl, HB.out.drN _⟩
        · have HR : Hid (partP z e = 7) := Lib.hid (by rw [HR0.out, if_pos (by omega)])
          have dx : decide (x > 0) = false := decide_eq_false hx1
          clear k1 k2 k3 hk0 HR0 hx0 hx1
          generalize partP z e = T at *
          generalize arityE e.kind = ar at *
          generalize e.kind = k at *
          generalize e.n = n at *
          generalize e.args.length = L at *
          go_enter Try.func145, Try.ntmps145
          go_wp2_with fail
          refine (HAR.out _).mono ?_
          rintro r w1 ⟨rfl, rfl⟩
          go_wp2
          go_quiet (fail)
          go_wp2
          go_ret
          exact ⟨by rw [HR.out]; rfl, HB.out.drN _⟩
    · have HR : Hid (partP z e = 5) := Lib.hid (by unfold partP; rw [if_neg h1, if_neg h2, if_neg k1, if_pos k3, if_neg hn])
      clear HZ hz h1 h2
      by_cases k2 : e.kind = 2
      · have e2 : (e.kind == 2) = true := by rw [k2]; rfl
        by_cases hn0 : e.n < 0
        · have dn : decide (e.n < 0) = true := decide_eq_true hn0
          clear k1 k2 k3 hk0 hn hn0
          generalize partP z e = T at *
          generalize arityE e.kind = ar at *
          generalize e.kind = k at *
          generalize e.n = n at *
          generalize e.args.length = L at *
          go_enter Try.func145, Try.ntmps145
          go_wp2_with fail
          refine (HAR.out _).mono ?_
          rintro r w1 ⟨rfl, rfl⟩
          go_wp2
          go_ret
          exact ⟨by rw [HR.out]; rfl, HB.out⟩
        · have dn : decide (e.n < 0) = false := decide_eq_false hn0
          have dm : decide (e.n ≥ (z.length : Int)) = true := decide_eq_true (by omega)
          clear k1 k2 k3 hk0 hn hn0
          generalize partP z e = T at *
          generalize arityE e.kind = ar at *
          generalize e.kind = k at *
          generalize e.n = n at *
          generalize e.args.length = L at *
          go_enter Try.func145, Try.ntmps145
          go_wp2_with fail
          refine (HAR.out _).mono ?_
          rintro r w1 ⟨rfl, rfl⟩
          go_wp2
          go_ret
          exact ⟨by rw [HR.out]; rfl, HB.out⟩
      · have e2 : (e.kind == 2) = false := by simpa using k2
        have e3 : (e.kind == 3) = true := by rw [show e.kind = 3 by omega]; rfl
        by_cases hn0 : e.n < 0
        · have dn : decide (e.n < 0) = true := decide_eq_true hn0
          clear k1 k2 k3 hk0 hn hn0
          generalize partP z e = T at *
          generalize arityE e.kind = ar at *
          generalize e.kind = k at *
          generalize e.n = n at *
          generalize e.args.length = L at *
          go_enter Try.func145, Try.ntmps145
          go_wp2_with fail
          refine (HAR.out _).mono ?_
          rintro r w1 ⟨rfl, rfl⟩
          go_wp2
          go_ret
          exact ⟨by rw [HR.out]; rfl, HB.out⟩
        · have dn : decide (e.n < 0) = false := decide_eq_false hn0
          have dm : decide (e.n ≥ (z.length : Int)) = true := decide_eq_true (by omega)
          clear k1 k2 k3 hk0 hn hn0
          generalize partP z e = T at *
          generalize arityE e.kind = ar at *
          generalize e.kind = k at *
          generalize e.n = n at *
          generalize e.args.length = L at *
          go_enter Try.func145, Try.ntmps145
          go_wp2_with fail
          refine (HAR.out _).mono ?_
          rintro r w1 ⟨rfl, rfl⟩
          go_wp2
          go_ret
          exact ⟨by rw [HR.out]; rfl, HB.out⟩
  · have e2 : (e.kind == 2) = false := by simp; omega
    have e3 : (e.kind == 3) = false := by simp; omega
    by_cases hn : e.n = 0
    · have HR : Hid (partP z e = 0) := Lib.hid (by unfold partP; rw [if_neg h1, if_neg h2, if_neg k1, if_neg k3, if_neg (by omega)])
      have dn : (e.n != 0) = false := by rw [hn]; rfl
      clear HZ hz h1 h2 k1 k3 hn
      generalize partP z e = T at *
      generalize arityE e.kind = ar at *
      generalize e.kind = k at *
      generalize e.n = n at *
      generalize e.args.length = L at *
      go_enter Try.func145, Try.ntmps145
      go_wp2_with fail
      refine (HAR.out _).mono ?_
      rintro r w1 ⟨rfl, rfl⟩
      go_wp2
      go_ret
      exact ⟨by rw [HR.out]; rfl, HB.out⟩
    · have HR : Hid (partP z e = 3) := Lib.hid (by unfold partP; rw [if_neg h1, if_neg h2, if_neg k1, if_neg k3, if_pos hn])
      have dn : (e.n != 0) = true := by simpa using hn
      clear HZ hz h1 h2 k1 k3 hn
      generalize partP z e = T at *
      generalize arityE e.kind = ar at *
      generalize e.kind = k at *
      generalize e.n = n at *
      generalize e.args.length = L at *
      go_enter Try.func145, Try.ntmps145
      go_wp2_with fail
      refine (HAR.out _).mono ?_
      rintro r w1 ⟨rfl, rfl⟩
      go_wp2
      go_ret
      exact ⟨by rw [HR.out]; rfl, HB.out⟩
end Go.Proofs.Ytgkpplbomciehaa
