/- A program, by the program's checker: walked. Numbers of a run, and what two of them make, by the program: walked. Each lemma states its own conditions. -/
import Derived.Test.YtgkpplbomciehaaCdt19
namespace Go.Proofs.Ytgkpplbomciehaa
open Go.RowKit
theorem errFs_drop {pms : List Int} : ∀ {l : List PF} {j n : Nat} {f : PF}, l[j]? = some f → errFs pms (n + j) (l.drop j) = orE (f.err pms (if j + 1 = l.length then ((n + j : Nat) : Int) else ((n + j + 1 : Nat) : Int)) (decide (j + 1 = l.length))) (errFs pms (n + j + 1) (l.drop (j + 1)))
  | [], j, n, f, h => by simp at h
  | [x], j, n, f, h => by
    have hj : j = 0 := by have := (List.getElem?_eq_some_iff.1 h).1; simp at this; exact this
    subst hj
    obtain rfl := Option.some.inj h
    rw [List.drop_zero, errFs, if_pos (show 0 + 1 = [x].length from rfl), show List.drop (0 + 1) [x] = [] from rfl, errFs, orE_zero]
    rfl
  | x :: y :: l, j, n, f, h => by
    cases j with
    | zero =>
      obtain rfl := Option.some.inj h
      rw [List.drop_zero, errFs, if_neg (by simp), decide_eq_false (by simp)]
      rfl
    | succ j =>
      have := errFs_drop (pms := pms) (l := y :: l) (j := j) (n := n + 1) (f := f) (by simpa using h)
      rw [List.drop_succ_cons, List.drop_succ_cons]
      rw [show n + (j + 1) = n + 1 + j by omega]
      rw [this]
      have e : (j + 1 = (y :: l).length) ↔ (j + 1 + 1 = (x :: y :: l).length) := by simp
      rw [decide_eq_decide.2 e]
      by_cases hh : j + 1 = (y :: l).length
      · rw [if_pos hh, if_pos (e.1 hh)]
      · rw [if_neg hh, if_neg fun h2 => hh (e.2 h2)]
theorem errP_eq (l : List PF) : errP l = if l.length = 0 then 1 else if 6 < l.length ∨ fewFs l 0 = false then 2 else errFs (l.map PF.params) 0 l := by
  unfold errP fewFs
  by_cases h0 : l.length = 0
  · rw [if_pos h0, if_pos h0]
  rw [if_neg h0, if_neg h0]
  have e : (6 < l.length ∨ l.all (fun f => fineP f.cmds 1) = false ∨ 40 < (l.map fun f => cntP f.cmds).sum) ↔ (6 < l.length ∨ (l.all (fun f => fineP f.cmds 1) && decide (0 + ((l.map fun f => cntP f.cmds).sum : Nat) ≤ (40 : Int))) = false) := by
    rw [Bool.and_eq_false_iff]
    refine or_congr Iff.rfl (or_congr Iff.rfl ?_)
    constructor
    · intro h; exact decide_eq_false (by omega)
    · intro h; have := of_decide_eq_false h; omega
  by_cases h : 6 < l.length ∨ l.all (fun f => fineP f.cmds 1) = false ∨ 40 < (l.map fun f => cntP f.cmds).sum
  · rw [if_pos h, if_pos (e.1 h)]
  · rw [if_neg h, if_neg fun h2 => h (e.2 h2)]
set_option maxRecDepth 20000 in
set_option maxHeartbeats 8000000 in
theorem check_any (ps : List PF) (v : Value) (w : World) (h : Sl pfR w v ps) : Calls Try.prog 52 #[.agg #[v]] w fun r w' => r = .returned (.int .i64 (errP ps)) ∧ Bel w w' := by
  have HSL := Lib.hid h
  have HFW := Lib.hid (fun W (hb : Bel w W) => few_any ps v W (h.keep hb))
  have HT : Hid (errP ps = if ps.length = 0 then 1 else if 6 < ps.length ∨ fewFs ps 0 = false then 2 else errFs (ps.map PF.params) 0 ps) := Lib.hid (errP_eq ps)
  have HFN : Hid (fewFs ps 0 = true → ∀ f ∈ ps, fineP f.cmds 1 = true) := Lib.hid (by
    intro h
    unfold fewFs at h
    rw [Bool.and_eq_true, List.all_eq_true] at h
    exact h.1)
  obtain ⟨A, c, rfl, hll⟩ := sl_lit h
  clear h
  generalize errP ps = T at *
  generalize fewFs ps 0 = FW at *
  have HX : Hid (Bel w (w.alloc (.cells #[.slice A ps.length c] 40))) := Lib.hid ((Bel.rfl_ w).al _)
  have HPB := Lib.hid (Blk.new w 40 #[.slice A ps.length c])
  by_cases h0 : ps.length = 0
  · have HR : Hid (T = 1) := Lib.hid (by rw [HT.out, if_pos h0])
    obtain rfl := List.eq_nil_of_length_eq_zero h0
    have d0 : ((([] : List PF).length : Int) == 0) = true := rfl
    go_enter Try.func52, Try.ntmps52
    go_wp2
    go_ret
    exact ⟨by rw [HR.out]; rfl, HX.out⟩
  have d0 : ((ps.length : Int) == 0) = false := by rw [beq_eq_false_iff_ne]; omega
  by_cases h6 : ps.length > 6
  · have HR : Hid (T = 2) := Lib.hid (by rw [HT.out, if_neg h0, if_pos (Or.inl h6)])
    have d6 : decide ((ps.length : Int) > 6) = true := decide_eq_true (by omega)
    clear h0 h6
    go_enter Try.func52, Try.ntmps52
    go_wp2
    go_ret
    exact ⟨by rw [HR.out]; rfl, HX.out⟩
  have d6 : decide ((ps.length : Int) > 6) = false := decide_eq_false (by omega)
  have hpos : 0 < ps.length := by omega
  have h66 : ps.length ≤ 6 := by omega
  replace HT : Hid (T = if FW = false then 2 else errFs (ps.map PF.params) 0 ps) := Lib.hid (by
    rw [HT.out, if_neg h0]
    by_cases hf : FW = false
    · rw [if_pos (Or.inr hf), if_pos hf]
    · rw [if_neg (by rintro (h | h); exact h6 h; exact hf h), if_neg hf])
  clear h0 h6
  go_enter Try.func52, Try.ntmps52
  go_wp2_with fail
  refine (HFW.out _ HX.out).mono ?_
  rintro r w1 ⟨rfl, hb⟩
  replace HX := Lib.hid (HX.out.tr hb)
  replace HPB := Lib.hid (HPB.out.keep hb)
  have p0 := HPB.out.cell (i := 0) (v := .slice A ps.length c) rfl
  clear hb HFW d0
  cases FW with
  | false =>
    have HR : Hid (T = 2) := Lib.hid (by rw [HT.out, if_pos rfl])
    go_wp2
    go_ret
    exact ⟨by rw [HR.out]; rfl, HX.out⟩
  | true =>
    replace HT : Hid (errFs (ps.map PF.params) (0 + 0) (ps.drop 0) = T) := Lib.hid (by rw [HT.out, if_neg (by decide)]; rfl)
    replace HFN := Lib.hid (HFN.out rfl)
    clear d6
    go_wp2
    go_loopw [30] (fun i wr => ∃ j : Nat, i = .int .i64 j ∧ j ≤ ps.length ∧ Hid (errFs (ps.map PF.params) (0 + j) (ps.drop j) = T) ∧ Hid (∀ (i : Nat) gg, i < j → ps[i]? = some gg → gg.params ≤ 3) ∧ Hid (Bel w1 wr)) (fun i _ => ps.length - (intOf i).toNat)
    case atStart => exact ⟨0, rfl, by omega, HT, Lib.hid (fun i gg h => absurd h (by omega)), Bel.rfl_ _⟩
    case round =>
      obtain ⟨j, rfl, hj, HJ, HP3, HW⟩ := hrel
      clear HT
      by_cases hlt : j < ps.length
      rotate_left
      · have HR : Hid (0 = T) := Lib.hid (by rw [← HJ.out, List.drop_eq_nil_of_le (by omega), errFs])
        go_wp2
        go_ret
        exact ⟨by rw [← HR.out]; rfl, HX.out.tr HW.out⟩
      obtain ⟨f, hf⟩ : ∃ f, ps[j]? = some f := ⟨_, List.getElem?_eq_getElem hlt⟩
      obtain ⟨b, o, cs, rfl, hcs, hca⟩ := HSL.out.elem hf
      obtain ⟨vz, vc, vr, rfl, hz, hc, hr⟩ := id hcs
      have HCS : Hid (PFR w f [.int .i64 f.params, vz, vc, .int .i64 f.result.kind, .int .i64 f.result.n, vr]) := Lib.hid hcs
      have hca2 := hca.keep (HX.out.tr HW.out)
      have y0 : wr.cell? ⟨b, o + j * 6, none⟩ = some (.int .i64 f.params) := hca2 0 _ rfl
      have y1 : wr.cell? ⟨b, o + j * 6 + 1, none⟩ = some vz := hca2 1 _ rfl
      have y2 : wr.cell? ⟨b, o + j * 6 + 2, none⟩ = some vc := hca2 2 _ rfl
      have y3 : wr.cell? ⟨b, o + j * 6 + 3, none⟩ = some (.int .i64 f.result.kind) := hca2 3 _ rfl
      have y4 : wr.cell? ⟨b, o + j * 6 + 4, none⟩ = some (.int .i64 f.result.n) := hca2 4 _ rfl
      have y5 : wr.cell? ⟨b, o + j * 6 + 5, none⟩ = some vr := hca2 5 _ rfl
      obtain ⟨Az, cz, rfl, -⟩ := sl_lit hz
      obtain ⟨Ac, cc, rfl, -⟩ := sl_lit hc
      obtain ⟨Ar, cr, rfl, -⟩ := sl_lit hr
      have HFF := Lib.hid (HFN.out f (List.mem_of_getElem? hf))
      have p0 := (HPB.out.keep HW.out).cell (i := 0) (v := .slice (some ⟨b, o, none⟩) ps.length c) rfl
      have HFS := Lib.hid (errFs_drop (pms := ps.map PF.params) (n := 0) hf)
      have HHF := Lib.hid hf
      clear hca hca2 hcs hz hc hr hf
      have HX2 := Lib.hid (HX.out.tr HW.out)
      have HFC := Lib.hid (fun W g (calls : Int) main (hb : Bel w W) (hbk : Blk W g 155 #[.slice (some ⟨b, o, none⟩) ps.length c, .int .i64 f.params, .slice Az f.sizes.length cz, .slice Ac f.cmds.length cc, .int .i64 f.result.kind, .int .i64 f.result.n, .slice Ar f.result.args.length cr, .int .i64 calls]) (hcl : calls ≤ (ps.length : Int)) (hcj : calls ≤ j + 1) =>
        fn_any w W ps f calls g main ⟨_, _, hbk, HSL.out, HCS.out⟩ hb HFF.out hcl (fun h3 i gg hi hlt => by
          rcases Nat.lt_or_ge i j with h | h
          · exact HP3.out i gg h hi
          · obtain rfl : i = j := by omega
            rw [HHF.out] at hi
            obtain rfl := Option.some.inj hi
            exact h3))
      have HKF := Lib.hid (Blk.new wr 78 #[.int .i64 f.params, .slice Az f.sizes.length cz, .slice Ac f.cmds.length cc, .int .i64 f.result.kind, .int .i64 f.result.n, .slice Ar f.result.args.length cr])
      have HXF : Hid (Bel wr (wr.alloc (.cells #[.int .i64 f.params, .slice Az f.sizes.length cz, .slice Ac f.cmds.length cc, .int .i64 f.result.kind, .int .i64 f.result.n, .slice Ar f.result.args.length cr] 78))) := Lib.hid ((Bel.rfl_ wr).al _)
      go_upto_region 9 with fail
      generalize wr.alloc _ = WF at *
      generalize wr.heap.size = KF at *
      have HX3 := Lib.hid (HX2.out.tr HXF.out)
      replace p0 := HXF.out.cell p0
      have z0 := HKF.out.cell (i := 0) (v := .int .i64 f.params) rfl
      have z1 := HKF.out.cell (i := 1) (v := .slice Az f.sizes.length cz) rfl
      have z2 := HKF.out.cell (i := 2) (v := .slice Ac f.cmds.length cc) rfl
      have z3 := HKF.out.cell (i := 3) (v := .int .i64 f.result.kind) rfl
      have z4 := HKF.out.cell (i := 4) (v := .int .i64 f.result.n) rfl
      have z5 := HKF.out.cell (i := 5) (v := .slice Ar f.result.args.length cr) rfl
      clear y0 y1 y2 y3 y4 y5
      by_cases hjl : j + 1 = ps.length
      ·
        have dl : ((j : Int) == (ps.length : Int) - 1) = true := by rw [beq_iff_eq]; omega
        have HR : Hid (orE (f.err (ps.map PF.params) ((j : Int)) true) (errFs (ps.map PF.params) (j + 1) (ps.drop (j + 1))) = T) := Lib.hid (by rw [← HJ.out, HFS.out, if_pos hjl, decide_eq_true hjl]; simp only [Nat.zero_add]; try rfl)
        have HCH := Lib.hid (Blk.new WF 155 #[.slice (some ⟨b, o, none⟩) ps.length c, .int .i64 f.params, .slice Az f.sizes.length cz, .slice Ac f.cmds.length cc, .int .i64 f.result.kind, .int .i64 f.result.n, .slice Ar f.result.args.length cr, .int .i64 ((j : Int))])
        have HCB := Lib.hid (HFC.out _ _ ((j : Int)) true (HX3.out.al _) HCH.out (by omega) (by omega))
        have hmin : min ((j : Int) + 1) ((ps.length : Int) - 1) = (j : Int) := by omega
        have HPP : Hid (f.err (ps.map PF.params) ((j : Int)) true = 0 → f.params ≤ 3) := Lib.hid fun h => (PF.err_ok h).2.2.1
        generalize f.err (ps.map PF.params) ((j : Int)) true = FE at *
        go_wp2_with fail
        refine HCB.out.mono ?_
        rintro r w3 ⟨rfl, hb⟩
        have HX4 := Lib.hid (HXF.out.tr (Bel.tr ((Bel.rfl_ WF).al _) hb))
        clear hb HCH HCB
        by_cases hE : FE = 0
        · have HPQ := Lib.hid (HPP.out hE)
          subst hE
          go_wp2
          go_roundw
          case rel => exact ⟨j + 1, by go_num, by omega, Lib.hid (by rw [Nat.zero_add]; rw [← HR.out, orE_z]), Lib.hid (fun i gg hi hg => by
            rcases Nat.lt_or_ge i j with h | h
            · exact HP3.out i gg h hg
            · obtain rfl : i = j := by omega
              rw [HHF.out] at hg
              obtain rfl := Option.some.inj hg
              exact HPQ.out), Lib.hid (HW.out.tr HX4.out)⟩
          case measure => simp [intOf]; omega
        · have dE : (FE != 0) = true := by simpa using hE
          have HR2 : Hid (FE = T) := Lib.hid (by rw [← HR.out, orE_n hE])
          go_wp2
          go_ret
          exact ⟨by rw [← HR2.out]; rfl, HX2.out.tr HX4.out⟩
      ·
        have dl : ((j : Int) == (ps.length : Int) - 1) = false := by rw [beq_eq_false_iff_ne]; omega
        have HR : Hid (orE (f.err (ps.map PF.params) (((j + 1 : Nat) : Int)) false) (errFs (ps.map PF.params) (j + 1) (ps.drop (j + 1))) = T) := Lib.hid (by rw [← HJ.out, HFS.out, if_neg hjl, decide_eq_false hjl]; simp only [Nat.zero_add]; try rfl)
        have HCH := Lib.hid (Blk.new WF 155 #[.slice (some ⟨b, o, none⟩) ps.length c, .int .i64 f.params, .slice Az f.sizes.length cz, .slice Ac f.cmds.length cc, .int .i64 f.result.kind, .int .i64 f.result.n, .slice Ar f.result.args.length cr, .int .i64 (((j + 1 : Nat) : Int))])
        have HCB := Lib.hid (HFC.out _ _ (((j + 1 : Nat) : Int)) false (HX3.out.al _) HCH.out (by omega) (by omega))
        have hmin : min ((j : Int) + 1) ((ps.length : Int) - 1) = ((j + 1 : Nat) : Int) := by omega
        have HPP : Hid (f.err (ps.map PF.params) (((j + 1 : Nat) : Int)) false = 0 → f.params ≤ 3) := Lib.hid fun h => (PF.err_ok h).2.2.1
        generalize f.err (ps.map PF.params) (((j + 1 : Nat) : Int)) false = FE at *
        go_wp2_with fail
        refine HCB.out.mono ?_
        rintro r w3 ⟨rfl, hb⟩
        have HX4 := Lib.hid (HXF.out.tr (Bel.tr ((Bel.rfl_ WF).al _) hb))
        clear hb HCH HCB
        by_cases hE : FE = 0
        · have HPQ := Lib.hid (HPP.out hE)
          subst hE
          go_wp2
          go_roundw
          case rel => exact ⟨j + 1, by go_num, by omega, Lib.hid (by rw [Nat.zero_add]; rw [← HR.out, orE_z]), Lib.hid (fun i gg hi hg => by
            rcases Nat.lt_or_ge i j with h | h
            · exact HP3.out i gg h hg
            · obtain rfl : i = j := by omega
              rw [HHF.out] at hg
              obtain rfl := Option.some.inj hg
              exact HPQ.out), Lib.hid (HW.out.tr HX4.out)⟩
          case measure => simp [intOf]; omega
        · have dE : (FE != 0) = true := by simpa using hE
          have HR2 : Hid (FE = T) := Lib.hid (by rw [← HR.out, orE_n hE])
          go_wp2
          go_ret
          exact ⟨by rw [← HR2.out]; rfl, HX2.out.tr HX4.out⟩
theorem number_any (n : Int) (w : World) : Calls Try.prog 69 #[.int .i64 n] w fun r w' => r = .returned (.bool (decide (Num n))) ∧ w = w' := by
  have HN : Hid (decide (Num n) = (decide (-2147483648 ≤ n) && decide (n ≤ 2147483647))) := Lib.hid (by rw [Bool.eq_iff_iff, decide_eq_true_iff, Bool.and_eq_true, decide_eq_true_iff, decide_eq_true_iff]; exact Iff.rfl)
  generalize decide (Num n) = T at *
  by_cases h1 : n ≥ -2147483648
  · have d1 : decide (n ≥ -2147483648) = true := decide_eq_true h1
    by_cases h2 : n ≤ 2147483647
    · have d2 : decide (n ≤ 2147483647) = true := decide_eq_true h2
      have HR : Hid (T = true) := Lib.hid (by rw [HN.out, decide_eq_true (show -2147483648 ≤ n from h1), d2]; rfl)
      clear HN
      go_enter Try.func69, Try.ntmps69
      go_wp2
      go_ret
      exact ⟨by rw [HR.out]; rfl, rfl⟩
    · have d2 : decide (n ≤ 2147483647) = false := decide_eq_false h2
      have HR : Hid (T = false) := Lib.hid (by rw [HN.out, d2, Bool.and_false])
      clear HN
      go_enter Try.func69, Try.ntmps69
      go_wp2
      go_ret
      exact ⟨by rw [HR.out]; rfl, rfl⟩
  · have d1 : decide (n ≥ -2147483648) = false := decide_eq_false h1
    have HR : Hid (T = false) := Lib.hid (by rw [HN.out, decide_eq_false (show ¬ -2147483648 ≤ n from h1), Bool.false_and])
    clear HN
    go_enter Try.func69, Try.ntmps69
    go_wp2
    go_ret
    exact ⟨by rw [HR.out]; rfl, rfl⟩
end Go.Proofs.Ytgkpplbomciehaa
