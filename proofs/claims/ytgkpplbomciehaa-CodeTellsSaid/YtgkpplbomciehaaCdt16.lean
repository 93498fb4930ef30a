/- The names of a command, by the program: walked. Each lemma states its own conditions. -/
import Derived.Test.YtgkpplbomciehaaCdt15
namespace Go.Proofs.Ytgkpplbomciehaa
open Go.RowKit
/-- what is wrong with a command's names -/
def nameP (z : List Int) (calls : Int) (x : PC) : Int :=
  if (x.kind ≤ 4 ∧ ¬ (0 ≤ x.var ∧ x.var < z.length)) ∨ (x.kind = 3 ∧ ¬ (0 ≤ x.fn ∧ x.fn < calls)) then 5
  else if x.kind ≤ 4 ∧ (0 < z.getD x.var.toNat 0 ∧ x.kind ≠ 2 ∨ z.getD x.var.toNat 0 = 0 ∧ x.kind = 2) then 7
  else if (4 < x.kind ∧ x.var ≠ 0) ∨ (x.kind ≠ 3 ∧ x.fn ≠ 0) then 1 else 0
set_option maxRecDepth 20000 in
set_option maxHeartbeats 16000000 in
theorem names_any (w0 w : World) (ps : List PF) (f : PF) (calls : Int) (g : Nat) (x : PC) (cs : List Value) (h : ChkM w0 w ps f calls g) (hb0 : Bel w0 w) (hz0 : ∀ n ∈ f.sizes, 0 ≤ n) (hx : PCR w0 x cs) :
    Calls Try.prog 153 #[.pointer (some ⟨g, 0, none⟩), .agg cs.toArray] w fun r w' => r = .returned (.int .i64 (nameP f.sizes calls x)) ∧ Bel w w' := by
  obtain ⟨vp, vz, vc, vr, hbk, -, hz, hc, hr⟩ := h.cells
  obtain ⟨vi, ve, va, vt, vs, rfl, hsi, hse, hsa, hst, hsl⟩ := pcCells hx
  have HZ := Lib.hid (hz.keep hb0)
  obtain ⟨Az, cz, rfl, hlz⟩ := sl_lit hz
  obtain ⟨Ac, cc, rfl, -⟩ := sl_lit hc
  obtain ⟨Ar, cr, rfl, -⟩ := sl_lit hr
  have HP : Hid (nameP f.sizes calls x = if (x.kind ≤ 4 ∧ ¬ (0 ≤ x.var ∧ x.var < f.sizes.length)) ∨ (x.kind = 3 ∧ ¬ (0 ≤ x.fn ∧ x.fn < calls)) then 5 else if x.kind ≤ 4 ∧ (0 < f.sizes.getD x.var.toNat 0 ∧ x.kind ≠ 2 ∨ f.sizes.getD x.var.toNat 0 = 0 ∧ x.kind = 2) then 7 else if (4 < x.kind ∧ x.var ≠ 0) ∨ (x.kind ≠ 3 ∧ x.fn ≠ 0) then 1 else 0) := Lib.hid rfl
  have HZ0 := Lib.hid hz0
  have HBK := Lib.hid hbk
  clear h hbk hz hc hr hx hb0 hz0 hsi hse hsa hst hsl
  generalize nameP f.sizes calls x = T at *
  generalize x.index.kind = ik at *
  generalize x.index.n = iN at *
  generalize x.expr.kind = ek at *
  generalize x.expr.n = eN at *
  generalize x.kind = k at *
  generalize x.var = vv at *
  generalize x.fn = xf at *
  generalize f.result.kind = rk at *
  generalize f.result.n = rn at *
  generalize hL : f.sizes.length = L at *
  generalize f.params = P at *
  by_cases h4 : k ≤ 4
  · have e4 : decide (k ≤ 4) = true := decide_eq_true h4
    by_cases hv0 : vv < 0
    · have dv0 : decide (vv < 0) = true := decide_eq_true hv0
      have HR : Hid (T = 5) := Lib.hid (by rw [HP.out]; rw [if_pos (Or.inl ⟨h4, by omega⟩)])
      have q7 := (HBK.out.keep ((Bel.rfl_ w).al (.cells #[.int .i64 k, .int .i64 vv, .int .i64 xf, .int .i64 ik, .int .i64 iN, vi, .int .i64 ek, .int .i64 eN, ve, va, vt, vs] 120))).cell (i := 7) (v := .int .i64 calls) rfl
      have q2 := (HBK.out.keep ((Bel.rfl_ w).al (.cells #[.int .i64 k, .int .i64 vv, .int .i64 xf, .int .i64 ik, .int .i64 iN, vi, .int .i64 ek, .int .i64 eN, ve, va, vt, vs] 120))).cell (i := 2) (v := .slice Az L cz) rfl
      clear h4 hv0 HP
      go_enter Try.func153, Try.ntmps153
      go_wp2
      go_quiet (fail)
      go_wp2
      go_quiet (fail)
      go_wp2
      all_goals try go_quiet (fail)
      all_goals try go_wp2
      go_ret
      exact ⟨by rw [HR.out]; rfl, by repeat (first | exact Bel.rfl_ _ | apply Bel.drN | apply Bel.dr | apply Bel.al)⟩
    have dv0 : decide (vv < 0) = false := decide_eq_false hv0
    by_cases hv1 : vv ≥ (L : Int)
    · have dv1 : decide (vv ≥ (L : Int)) = true := decide_eq_true hv1
      have HR : Hid (T = 5) := Lib.hid (by rw [HP.out]; rw [if_pos (Or.inl ⟨h4, by omega⟩)])
      have q7 := (HBK.out.keep ((Bel.rfl_ w).al (.cells #[.int .i64 k, .int .i64 vv, .int .i64 xf, .int .i64 ik, .int .i64 iN, vi, .int .i64 ek, .int .i64 eN, ve, va, vt, vs] 120))).cell (i := 7) (v := .int .i64 calls) rfl
      have q2 := (HBK.out.keep ((Bel.rfl_ w).al (.cells #[.int .i64 k, .int .i64 vv, .int .i64 xf, .int .i64 ik, .int .i64 iN, vi, .int .i64 ek, .int .i64 eN, ve, va, vt, vs] 120))).cell (i := 2) (v := .slice Az L cz) rfl
      clear h4 hv0 hv1 HP
      go_enter Try.func153, Try.ntmps153
      go_wp2
      go_quiet (fail)
      go_wp2
      go_quiet (fail)
      go_wp2
      all_goals try go_quiet (fail)
      all_goals try go_wp2
      go_ret
      exact ⟨by rw [HR.out]; rfl, by repeat (first | exact Bel.rfl_ _ | apply Bel.drN | apply Bel.dr | apply Bel.al)⟩
    have dv1 : decide (vv ≥ (L : Int)) = false := decide_eq_false hv1
    obtain ⟨u, hu⟩ : ∃ u, f.sizes[vv.toNat]? = some u := ⟨_, List.getElem?_eq_getElem (by omega)⟩
    have hu0 := HZ0.out u (List.mem_of_getElem? hu)
    have hgu : f.sizes.getD vv.toNat 0 = u := by rw [List.getD_eq_getElem?_getD, hu]; rfl
    rw [hgu] at HP
    obtain ⟨b, o, rfl, hA⟩ := HZ.out.lies (by omega)
    have cx := intR.cell hA hu
    have i0 : 0 ≤ vv := by omega
    have i1 : vv < L := by omega
    clear hA hu hgu HZ HZ0
    by_cases k3 : k = 3
    · have e3 : (k == 3) = true := by rw [k3]; rfl
      have e2 : (k == 2) = false := by rw [k3]; rfl
      by_cases hf0 : xf < 0
      · have df0 : decide (xf < 0) = true := decide_eq_true hf0
        have HR : Hid (T = 5) := Lib.hid (by rw [HP.out]; rw [if_pos (Or.inr ⟨k3, by omega⟩)])
        have q7 := (HBK.out.keep ((Bel.rfl_ w).al (.cells #[.int .i64 k, .int .i64 vv, .int .i64 xf, .int .i64 ik, .int .i64 iN, vi, .int .i64 ek, .int .i64 eN, ve, va, vt, vs] 120))).cell (i := 7) (v := .int .i64 calls) rfl
        have q2 := (HBK.out.keep ((Bel.rfl_ w).al (.cells #[.int .i64 k, .int .i64 vv, .int .i64 xf, .int .i64 ik, .int .i64 iN, vi, .int .i64 ek, .int .i64 eN, ve, va, vt, vs] 120))).cell (i := 2) (v := .slice (some ⟨b, o, none⟩) L cz) rfl
        clear h4 k3 hv0 hv1 hf0 HP
        go_enter Try.func153, Try.ntmps153
        go_wp2
        go_quiet (fail)
        go_wp2
        go_quiet (fail)
        go_wp2
        all_goals try go_quiet (fail)
        all_goals try go_wp2
        go_ret
        exact ⟨by rw [HR.out]; rfl, by repeat (first | exact Bel.rfl_ _ | apply Bel.drN | apply Bel.dr | apply Bel.al)⟩
      have df0 : decide (xf < 0) = false := decide_eq_false hf0
      by_cases hf1 : xf ≥ calls
      · have df1 : decide (xf ≥ calls) = true := decide_eq_true hf1
        have HR : Hid (T = 5) := Lib.hid (by rw [HP.out]; rw [if_pos (Or.inr ⟨k3, by omega⟩)])
        have q7 := (HBK.out.keep ((Bel.rfl_ w).al (.cells #[.int .i64 k, .int .i64 vv, .int .i64 xf, .int .i64 ik, .int .i64 iN, vi, .int .i64 ek, .int .i64 eN, ve, va, vt, vs] 120))).cell (i := 7) (v := .int .i64 calls) rfl
        have q2 := (HBK.out.keep ((Bel.rfl_ w).al (.cells #[.int .i64 k, .int .i64 vv, .int .i64 xf, .int .i64 ik, .int .i64 iN, vi, .int .i64 ek, .int .i64 eN, ve, va, vt, vs] 120))).cell (i := 2) (v := .slice (some ⟨b, o, none⟩) L cz) rfl
        clear h4 k3 hv0 hv1 hf0 hf1 HP
        go_enter Try.func153, Try.ntmps153
        go_wp2
        go_quiet (fail)
        go_wp2
        go_quiet (fail)
        go_wp2
        all_goals try go_quiet (fail)
        all_goals try go_wp2
        go_ret
        exact ⟨by rw [HR.out]; rfl, by repeat (first | exact Bel.rfl_ _ | apply Bel.drN | apply Bel.dr | apply Bel.al)⟩
      have df1 : decide (xf ≥ calls) = false := decide_eq_false hf1
      by_cases hu1 : u > 0
      · have du : decide (u > 0) = true := decide_eq_true hu1
        have HR : Hid (T = 7) := Lib.hid (by rw [HP.out]; rw [if_neg (by omega), if_pos (by omega)])
        have q7 := (HBK.out.keep ((Bel.rfl_ w).al (.cells #[.int .i64 k, .int .i64 vv, .int .i64 xf, .int .i64 ik, .int .i64 iN, vi, .int .i64 ek, .int .i64 eN, ve, va, vt, vs] 120))).cell (i := 7) (v := .int .i64 calls) rfl
        have q2 := (HBK.out.keep ((Bel.rfl_ w).al (.cells #[.int .i64 k, .int .i64 vv, .int .i64 xf, .int .i64 ik, .int .i64 iN, vi, .int .i64 ek, .int .i64 eN, ve, va, vt, vs] 120))).cell (i := 2) (v := .slice (some ⟨b, o, none⟩) L cz) rfl
        have cx2 := ((Bel.rfl_ w).al (.cells #[.int .i64 k, .int .i64 vv, .int .i64 xf, .int .i64 ik, .int .i64 iN, vi, .int .i64 ek, .int .i64 eN, ve, va, vt, vs] 120)).cell cx
        clear h4 k3 hv0 hv1 hf0 hf1 hu1 hu0 HP
        go_enter Try.func153, Try.ntmps153
        go_wp2
        go_quiet (fail)
        go_wp2
        go_quiet (fail)
        go_wp2
        all_goals try go_quiet (fail)
        all_goals try go_wp2
        go_ret
        exact ⟨by rw [HR.out]; rfl, by repeat (first | exact Bel.rfl_ _ | apply Bel.drN | apply Bel.dr | apply Bel.al)⟩
      · have du : decide (u > 0) = false := decide_eq_false hu1
        have HR : Hid (T = 0) := Lib.hid (by rw [HP.out]; rw [if_neg (by omega), if_neg (by omega), if_neg (by omega)])
        have q7 := (HBK.out.keep ((Bel.rfl_ w).al (.cells #[.int .i64 k, .int .i64 vv, .int .i64 xf, .int .i64 ik, .int .i64 iN, vi, .int .i64 ek, .int .i64 eN, ve, va, vt, vs] 120))).cell (i := 7) (v := .int .i64 calls) rfl
        have q2 := (HBK.out.keep ((Bel.rfl_ w).al (.cells #[.int .i64 k, .int .i64 vv, .int .i64 xf, .int .i64 ik, .int .i64 iN, vi, .int .i64 ek, .int .i64 eN, ve, va, vt, vs] 120))).cell (i := 2) (v := .slice (some ⟨b, o, none⟩) L cz) rfl
        have cx2 := ((Bel.rfl_ w).al (.cells #[.int .i64 k, .int .i64 vv, .int .i64 xf, .int .i64 ik, .int .i64 iN, vi, .int .i64 ek, .int .i64 eN, ve, va, vt, vs] 120)).cell cx
        clear h4 k3 hv0 hv1 hf0 hf1 hu1 hu0 HP
        go_enter Try.func153, Try.ntmps153
        go_wp2
        go_quiet (fail)
        go_wp2
        go_quiet (fail)
        go_wp2
        all_goals try go_quiet (fail)
        all_goals try go_wp2
        go_ret
        exact ⟨by rw [HR.out]; rfl, by repeat (first | exact Bel.rfl_ _ | apply Bel.drN | apply Bel.dr | apply Bel.al)⟩
    have e3 : (k == 3) = false := by simpa using k3
    by_cases k2 : k = 2
    · have e2 : (k == 2) = true := by rw [k2]; rfl
      by_cases hu1 : u > 0
      · have du : decide (u > 0) = true := decide_eq_true hu1
        by_cases hf : xf = 0
        · have df : (xf != 0) = false := by rw [hf]; rfl
          have HR : Hid (T = 0) := Lib.hid (by rw [HP.out]; rw [if_neg (by omega), if_neg (by omega), if_neg (by omega)])
          have q7 := (HBK.out.keep ((Bel.rfl_ w).al (.cells #[.int .i64 k, .int .i64 vv, .int .i64 xf, .int .i64 ik, .int .i64 iN, vi, .int .i64 ek, .int .i64 eN, ve, va, vt, vs] 120))).cell (i := 7) (v := .int .i64 calls) rfl
          have q2 := (HBK.out.keep ((Bel.rfl_ w).al (.cells #[.int .i64 k, .int .i64 vv, .int .i64 xf, .int .i64 ik, .int .i64 iN, vi, .int .i64 ek, .int .i64 eN, ve, va, vt, vs] 120))).cell (i := 2) (v := .slice (some ⟨b, o, none⟩) L cz) rfl
          have cx2 := ((Bel.rfl_ w).al (.cells #[.int .i64 k, .int .i64 vv, .int .i64 xf, .int .i64 ik, .int .i64 iN, vi, .int .i64 ek, .int .i64 eN, ve, va, vt, vs] 120)).cell cx
          clear h4 k3 k2 hv0 hv1 hf hu1 hu0 HP
          go_enter Try.func153, Try.ntmps153
          go_wp2
          go_quiet (fail)
          go_wp2
          go_quiet (fail)
          go_wp2
          all_goals try go_quiet (fail)
          all_goals try go_wp2
          go_ret
          exact ⟨by rw [HR.out]; rfl, by repeat (first | exact Bel.rfl_ _ | apply Bel.drN | apply Bel.dr | apply Bel.al)⟩
        · have df : (xf != 0) = true := by simpa using hf
          have HR : Hid (T = 1) := Lib.hid (by rw [HP.out]; rw [if_neg (by omega), if_neg (by omega), if_pos (by omega)])
          have q7 := (HBK.out.keep ((Bel.rfl_ w).al (.cells #[.int .i64 k, .int .i64 vv, .int .i64 xf, .int .i64 ik, .int .i64 iN, vi, .int .i64 ek, .int .i64 eN, ve, va, vt, vs] 120))).cell (i := 7) (v := .int .i64 calls) rfl
          have q2 := (HBK.out.keep ((Bel.rfl_ w).al (.cells #[.int .i64 k, .int .i64 vv, .int .i64 xf, .int .i64 ik, .int .i64 iN, vi, .int .i64 ek, .int .i64 eN, ve, va, vt, vs] 120))).cell (i := 2) (v := .slice (some ⟨b, o, none⟩) L cz) rfl
          have cx2 := ((Bel.rfl_ w).al (.cells #[.int .i64 k, .int .i64 vv, .int .i64 xf, .int .i64 ik, .int .i64 iN, vi, .int .i64 ek, .int .i64 eN, ve, va, vt, vs] 120)).cell cx
          clear h4 k3 k2 hv0 hv1 hf hu1 hu0 HP
          go_enter Try.func153, Try.ntmps153
          go_wp2
          go_quiet (fail)
          go_wp2
          go_quiet (fail)
          go_wp2
          all_goals try go_quiet (fail)
          all_goals try go_wp2
          go_ret
          exact ⟨by rw [HR.out]; rfl, by repeat (first | exact Bel.rfl_ _ | apply Bel.drN | apply Bel.dr | apply Bel.al)⟩
      · have du : decide (u > 0) = false := decide_eq_false hu1
        have HR : Hid (T = 7) := Lib.hid (by rw [HP.out]; rw [if_neg (by omega), if_pos (by omega)])
        have q7 := (HBK.out.keep ((Bel.rfl_ w).al (.cells #[.int .i64 k, .int .i64 vv, .int .i64 xf, .int .i64 ik, .int .i64 iN, vi, .int .i64 ek, .int .i64 eN, ve, va, vt, vs] 120))).cell (i := 7) (v := .int .i64 calls) rfl
        have q2 := (HBK.out.keep ((Bel.rfl_ w).al (.cells #[.int .i64 k, .int .i64 vv, .int .i64 xf, .int .i64 ik, .int .i64 iN, vi, .int .i64 ek, .int .i64 eN, ve, va, vt, vs] 120))).cell (i := 2) (v := .slice (some ⟨b, o, none⟩) L cz) rfl
        have cx2 := ((Bel.rfl_ w).al (.cells #[.int .i64 k, .int .i64 vv, .int .i64 xf, .int .i64 ik, .int .i64 iN, vi, .int .i64 ek, .int .i64 eN, ve, va, vt, vs] 120)).cell cx
        clear h4 k3 k2 hv0 hv1 hu1 hu0 HP
        go_enter Try.func153, Try.ntmps153
        go_wp2
        go_quiet (fail)
        go_wp2
        go_quiet (fail)
        go_wp2
        all_goals try go_quiet (fail)
        all_goals try go_wp2
        go_ret
        exact ⟨by rw [HR.out]; rfl, by repeat (first | exact Bel.rfl_ _ | apply Bel.drN | apply Bel.dr | apply Bel.al)⟩
    have e2 : (k == 2) = false := by simpa using k2
    by_cases hu1 : u > 0
    · have du : decide (u > 0) = true := decide_eq_true hu1
      have HR : Hid (T = 7) := Lib.hid (by rw [HP.out]; rw [if_neg (by omega), if_pos (by omega)])
      have q7 := (HBK.out.keep ((Bel.rfl_ w).al (.cells #[.int .i64 k, .int .i64 vv, .int .i64 xf, .int .i64 ik, .int .i64 iN, vi, .int .i64 ek, .int .i64 eN, ve, va, vt, vs] 120))).cell (i := 7) (v := .int .i64 calls) rfl
      have q2 := (HBK.out.keep ((Bel.rfl_ w).al (.cells #[.int .i64 k, .int .i64 vv, .int .i64 xf, .int .i64 ik, .int .i64 iN, vi, .int .i64 ek, .int .i64 eN, ve, va, vt, vs] 120))).cell (i := 2) (v := .slice (some ⟨b, o, none⟩) L cz) rfl
      have cx2 := ((Bel.rfl_ w).al (.cells #[.int .i64 k, .int .i64 vv, .int .i64 xf, .int .i64 ik, .int .i64 iN, vi, .int .i64 ek, .int .i64 eN, ve, va, vt, vs] 120)).cell cx
      clear h4 k3 k2 hv0 hv1 hu1 hu0 HP
      go_enter Try.func153, Try.ntmps153
      go_wp2
      go_quiet (fail)
      go_wp2
      go_quiet (fail)
      go_wp2
      all_goals try go_quiet (fail)
      all_goals try go_wp2
      go_ret
      exact ⟨by rw [HR.out]; rfl, by repeat (first | exact Bel.rfl_ _ | apply Bel.drN | apply Bel.dr | apply Bel.al)⟩
    have du : decide (u > 0) = false := decide_eq_false hu1
    by_cases hf : xf = 0
    · have df : (xf != 0) = false := by rw [hf]; rfl
      have HR : Hid (T = 0) := Lib.hid (by rw [HP.out]; rw [if_neg (by omega), if_neg (by omega), if_neg (by omega)])
      have q7 := (HBK.out.keep ((Bel.rfl_ w).al (.cells #[.int .i64 k, .int .i64 vv, .int .i64 xf, .int .i64 ik, .int .i64 iN, vi, .int .i64 ek, .int .i64 eN, ve, va, vt, vs] 120))).cell (i := 7) (v := .int .i64 calls) rfl
      have q2 := (HBK.out.keep ((Bel.rfl_ w).al (.cells #[.int .i64 k, .int .i64 vv, .int .i64 xf, .int .i64 ik, .int .i64 iN, vi, .int .i64 ek, .int .i64 eN, ve, va, vt, vs] 120))).cell (i := 2) (v := .slice (some ⟨b, o, none⟩) L cz) rfl
      have cx2 := ((Bel.rfl_ w).al (.cells #[.int .i64 k, .int .i64 vv, .int .i64 xf, .int .i64 ik, .int .i64 iN, vi, .int .i64 ek, .int .i64 eN, ve, va, vt, vs] 120)).cell cx
      clear h4 k3 k2 hv0 hv1 hf hu1 hu0 HP
      go_enter Try.func153, Try.ntmps153
      go_wp2
      go_quiet (fail)
      go_wp2
      go_quiet (fail)
      go_wp2
      all_goals try go_quiet (fail)
      all_goals try go_wp2
      go_ret
      exact ⟨by rw [HR.out]; rfl, by repeat (first | exact Bel.rfl_ _ | apply Bel.drN | apply Bel.dr | apply Bel.al)⟩
    · have df : (xf != 0) = true := by simpa using hf
      have HR : Hid (T = 1) := Lib.hid (by rw [HP.out]; rw [if_neg (by omega), if_neg (by omega), if_pos (by omega)])
      have q7 := (HBK.out.keep ((Bel.rfl_ w).al (.cells #[.int .i64 k, .int .i64 vv, .int .i64 xf, .int .i64 ik, .int .i64 iN, vi, .int .i64 ek, .int .i64 eN, ve, va, vt, vs] 120))).cell (i := 7) (v := .int .i64 calls) rfl
      have q2 := (HBK.out.keep ((Bel.rfl_ w).al (.cells #[.int .i64 k, .int .i64 vv, .int .i64 xf, .int .i64 ik, .int .i64 iN, vi, .int .i64 ek, .int .i64 eN, ve, va, vt, vs] 120))).cell (i := 2) (v := .slice (some ⟨b, o, none⟩) L cz) rfl
      have cx2 := ((Bel.rfl_ w).al (.cells #[.int .i64 k, .int .i64 vv, .int .i64 xf, .int .i64 ik, .int .i64 iN, vi, .int .i64 ek, .int .i64 eN, ve, va, vt, vs] 120)).cell cx
      clear h4 k3 k2 hv0 hv1 hf hu1 hu0 HP
      go_enter Try.func153, Try.ntmps153
      go_wp2
      go_quiet (fail)
      go_wp2
      go_quiet (fail)
      go_wp2
      all_goals try go_quiet (fail)
      all_goals try go_wp2
      go_ret
      exact ⟨by rw [HR.out]; rfl, by repeat (first | exact Bel.rfl_ _ | apply Bel.drN | apply Bel.dr | apply Bel.al)⟩
  have e4 : decide (k ≤ 4) = false := decide_eq_false h4
  have e3 : (k == 3) = false := by simp; omega
  by_cases hv : vv = 0
  · have dv : (vv != 0) = false := by rw [hv]; rfl
    by_cases hf : xf = 0
    · have df : (xf != 0) = false := by rw [hf]; rfl
      have HR : Hid (T = 0) := Lib.hid (by rw [HP.out]; rw [if_neg (by omega), if_neg (by omega), if_neg (by omega)])
      have q7 := (HBK.out.keep ((Bel.rfl_ w).al (.cells #[.int .i64 k, .int .i64 vv, .int .i64 xf, .int .i64 ik, .int .i64 iN, vi, .int .i64 ek, .int .i64 eN, ve, va, vt, vs] 120))).cell (i := 7) (v := .int .i64 calls) rfl
      have q2 := (HBK.out.keep ((Bel.rfl_ w).al (.cells #[.int .i64 k, .int .i64 vv, .int .i64 xf, .int .i64 ik, .int .i64 iN, vi, .int .i64 ek, .int .i64 eN, ve, va, vt, vs] 120))).cell (i := 2) (v := .slice Az L cz) rfl
      clear h4 hv hf HZ HZ0 HP
      go_enter Try.func153, Try.ntmps153
      go_wp2
      go_quiet (fail)
      go_wp2
      go_quiet (fail)
      go_wp2
      all_goals try go_quiet (fail)
      all_goals try go_wp2
      go_ret
      exact ⟨by rw [HR.out]; rfl, by repeat (first | exact Bel.rfl_ _ | apply Bel.drN | apply Bel.dr | apply Bel.al)⟩
    · have df : (xf != 0) = true := by simpa using hf
      have HR : Hid (T = 1) := Lib.hid (by rw [HP.out]; rw [if_neg (by omega), if_neg (by omega), if_pos (by omega)])
      have q7 := (HBK.out.keep ((Bel.rfl_ w).al (.cells #[.int .i64 k, .int .i64 vv, .int .i64 xf, .int .i64 ik, .int .i64 iN, vi, .int .i64 ek, .int .i64 eN, ve, va, vt, vs] 120))).cell (i := 7) (v := .int .i64 calls) rfl
      have q2 := (HBK.out.keep ((Bel.rfl_ w).al (.cells #[.int .i64 k, .int .i64 vv, .int .i64 xf, .int .i64 ik, .int .i64 iN, vi, .int .i64 ek, .int .i64 eN, ve, va, vt, vs] 120))).cell (i := 2) (v := .slice Az L cz) rfl
      clear h4 hv hf HZ HZ0 HP
      go_enter Try.func153, Try.ntmps153
      go_wp2
      go_quiet (fail)
      go_wp2
      go_quiet (fail)
      go_wp2
      all_goals try go_quiet (fail)
      all_goals try go_wp2
      go_ret
      exact ⟨by rw [HR.out]; rfl, by repeat (first | exact Bel.rfl_ _ | apply Bel.drN | apply Bel.dr | apply Bel.al)⟩
  · have dv : (vv != 0) = true := by simpa using hv
    have HR : Hid (T = 1) := Lib.hid (by rw [HP.out]; rw [if_neg (by omega), if_neg (by omega), if_pos (by omega)])
    have q7 := (HBK.out.keep ((Bel.rfl_ w).al (.cells #[.int .i64 k, .int .i64 vv, .int .i64 xf, .int .i64 ik, .int .i64 iN, vi, .int .i64 ek, .int .i64 eN, ve, va, vt, vs] 120))).cell (i := 7) (v := .int .i64 calls) rfl
    have q2 := (HBK.out.keep ((Bel.rfl_ w).al (.cells #[.int .i64 k, .int .i64 vv, .int .i64 xf, .int .i64 ik, .int .i64 iN, vi, .int .i64 ek, .int .i64 eN, ve, va, vt, vs] 120))).cell (i := 2) (v := .slice Az L cz) rfl
    clear h4 hv HZ HZ0 HP
    go_enter Try.func153, Try.ntmps153
    go_wp2
    go_quiet (fail)
    go_wp2
    go_quiet (fail)
    go_wp2
    all_goals try go_quiet (fail)
    all_goals try go_wp2
    go_ret
    exact ⟨by rw [HR.out]; rfl, by repeat (first | exact Bel.rfl_ _ | apply Bel.drN | apply Bel.dr | apply Bel.al)⟩
end Go.Proofs.Ytgkpplbomciehaa
