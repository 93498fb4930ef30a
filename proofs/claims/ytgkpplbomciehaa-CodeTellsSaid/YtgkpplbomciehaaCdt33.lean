/- The document's verdict on code: walked. Each lemma states its own conditions. -/
import Derived.Test.YtgkpplbomciehaaCdt27
namespace Go.Proofs.Ytgkpplbomciehaa
open Go.RowKit
set_option maxRecDepth 20000 in
theorem checkCode_any (c : Cd) (v : Value) (w : World) (hcd : CodeR w v c) : Calls Try.prog 15 #[v] w fun r w' => r = .returned (.int .i64 (codeE c)) ∧ Bel w w' := by
  obtain ⟨vi, vf, vz, rfl, hs, hf, hz⟩ := hcd
  obtain ⟨Ai, ci, rfl, hli⟩ := sl_lit hs
  obtain ⟨Af, cf, rfl, hlf⟩ := sl_lit hf
  obtain ⟨Az, cz, rfl, hlz⟩ := sl_lit hz
  have HB1 : Bel w (w.alloc (.cells #[.slice Ai c.ins.length ci, .slice Af c.first.length cf, .slice Az c.sizes.length cz] CDT)) := (Bel.rfl_ w).al _
  have HC1 := Blk.new w CDT #[.slice Ai c.ins.length ci, .slice Af c.first.length cf, .slice Az c.sizes.length cz]
  refine af_enter (c := _) (args := [.agg #[.slice Ai c.ins.length ci, .slice Af c.first.length cf, .slice Az c.sizes.length cz]]) Try.func15 rfl Try.ntmps15 (by kernel_rfl) ?_
  refine ca_seq ?_
  refine ca_region ?_
  refine wa_w (some 1) (.pointer (some ⟨w.heap.size, 0, none⟩)) (w.alloc (.cells #[.slice Ai c.ins.length ci, .slice Af c.first.length cf, .slice Az c.sizes.length cz] CDT)) (by kernel_rfl) ?_
  generalize w.alloc (.cells #[.slice Ai c.ins.length ci, .slice Af c.first.length cf, .slice Az c.sizes.length cz] CDT) = W1 at *
  generalize w.heap.size = Q at *
  have HBC := HB1
  have HBK := Bel.rfl_ W1
  refine wa_q (some 2) (.int .i64 0) (by kernel_rfl) ?_
  refine wa_nil ?_
  refine la_code ?_
  refine ca_seq ?_
  refine ca_region ?_
  refine wa_q (some 9) (.pointer (some ⟨Q, 0, none⟩)) (by kernel_rfl) ?_
  refine wa_do (some 10) (.slice Ai c.ins.length ci) (by kernel_rfl) (by kernel_rfl) (rl_ins rfl (by kernel_rfl) ((HC1.keep HBK).cell (i := 0) rfl)) ?_
  refine wa_q (some 11) (.int .i64 c.ins.length) (by kernel_rfl) ?_
  refine wa_q (some 3) (.int .i64 c.ins.length) (by kernel_rfl) ?_
  refine wa_nil ?_
  refine la_code ?_
  refine ca_seq ?_
  refine ca_seq ?_
  refine ca_region ?_
  refine wa_q (some 12) (.int .i64 c.ins.length) (by kernel_rfl) ?_
  obtain ⟨zc1, hzc1⟩ : ∃ b : Bool, decide ((3000 : Int) < c.ins.length) = b := ⟨_, rfl⟩
  refine wa_do (some 13) (.bool zc1) (by kernel_rfl) (by kernel_rfl) (rb_gtrI (k := c.ins.length) (l := 3000) rfl (by kernel_rfl) (by kernel_rfl) hzc1) ?_
  refine wa_nil ?_
  refine la_code ?_
  cases zc1 with
  | true =>
    have hq : (decide ((3000 : Int) < c.ins.length)) = true := by rw [hzc1]
    simp only [sB] at hq
    have hfin := codeE_many (c := c) (by omega)
    refine ca_true (by kernel_rfl) (by kernel_rfl) ?_
    refine ca_seq ?_
    refine ca_region ?_
    refine wa_q (some 2) (.int .i64 2) (by kernel_rfl) ?_
    refine wa_nil ?_
    refine la_code ?_
    refine ca_ret ?_
    refine la_then_ret ?_
    refine la_ret1 2 (.int .i64 2) rfl (by kernel_rfl) ?_
    exact ⟨by rw [hfin], HBC⟩
  | false =>
    have hq : (decide ((3000 : Int) < c.ins.length)) = false := by rw [hzc1]
    simp only [sB] at hq
    have h3000 : ¬ 3000 < c.ins.length := by omega
    refine ca_false (by kernel_rfl) (by kernel_rfl) ?_
    refine ca_skip ?_
    refine la_code ?_
    refine ca_seq ?_
    refine ca_seq ?_
    refine ca_region ?_
    refine wa_q (some 14) (.pointer (some ⟨Q, 1, none⟩)) (by kernel_rfl) ?_
    refine wa_do (some 15) (.slice Af c.first.length cf) (by kernel_rfl) (by kernel_rfl) (rl_is rfl (by kernel_rfl) ((HC1.keep HBK).cell (i := 1) rfl)) ?_
    refine wa_q (some 16) (.int .i64 c.first.length) (by kernel_rfl) ?_
    obtain ⟨zc2, hzc2⟩ : ∃ b : Bool, ((c.first.length : Int) == 0) = b := ⟨_, rfl⟩
    refine wa_do (some 17) (.bool zc2) (by kernel_rfl) (by kernel_rfl) (rb_eqlI (k := c.first.length) (l := 0) rfl (by kernel_rfl) (by kernel_rfl) hzc2) ?_
    refine wa_q (some 18) (.bool zc2) (by kernel_rfl) ?_
    obtain ⟨zg3, hzg3⟩ : ∃ b : Bool, b = (!zc2) := ⟨_, rfl⟩
    refine wa_if (some 19) zg3 (.pointer (some ⟨Q, 1, none⟩)) (by kernel_rfl) (by kernel_rfl) (by subst hzg3; cases zc2 <;> kernel_rfl) (fun hG => by subst hzg3; obtain rfl : zc2 = false := (by revert hG; cases zc2 <;> simp); kernel_rfl) ?_
    refine wa_if (some 20) zg3 (.slice Af c.first.length cf) (by kernel_rfl) (by kernel_rfl) (by subst hzg3; cases zc2 <;> kernel_rfl) (fun hG => by subst hzg3; obtain rfl : zc2 = false := (by revert hG; cases zc2 <;> simp); exact rl_is rfl (by kernel_rfl) ((HC1.keep HBK).cell (i := 1) rfl)) ?_
    refine wa_if (some 21) zg3 (.int .i64 c.first.length) (by kernel_rfl) (by kernel_rfl) (by subst hzg3; cases zc2 <;> kernel_rfl) (fun hG => by subst hzg3; obtain rfl : zc2 = false := (by revert hG; cases zc2 <;> simp); kernel_rfl) ?_
    refine wa_if (some 22) zg3 (.pointer (some ⟨Q, 2, none⟩)) (by kernel_rfl) (by kernel_rfl) (by subst hzg3; cases zc2 <;> kernel_rfl) (fun hG => by subst hzg3; obtain rfl : zc2 = false := (by revert hG; cases zc2 <;> simp); kernel_rfl) ?_
    refine wa_if (some 23) zg3 (.slice Az c.sizes.length cz) (by kernel_rfl) (by kernel_rfl) (by subst hzg3; cases zc2 <;> kernel_rfl) (fun hG => by subst hzg3; obtain rfl : zc2 = false := (by revert hG; cases zc2 <;> simp); exact rl_vvM rfl (by kernel_rfl) ((HC1.keep HBK).cell (i := 2) rfl)) ?_
    refine wa_if (some 24) zg3 (.int .i64 c.sizes.length) (by kernel_rfl) (by kernel_rfl) (by subst hzg3; cases zc2 <;> kernel_rfl) (fun hG => by subst hzg3; obtain rfl : zc2 = false := (by revert hG; cases zc2 <;> simp); kernel_rfl) ?_
    obtain ⟨zc4, hzc4⟩ : ∃ b : Bool, ((c.first.length : Int) != c.sizes.length) = b := ⟨_, rfl⟩
    refine wa_if (some 25) zg3 (.bool zc4) (by kernel_rfl) (by kernel_rfl) (by subst hzg3; cases zc2 <;> kernel_rfl) (fun hG => by subst hzg3; obtain rfl : zc2 = false := (by revert hG; cases zc2 <;> simp); exact rb_neqI (k := c.first.length) (l := c.sizes.length) rfl (by kernel_rfl) (by kernel_rfl) hzc4) ?_
    obtain ⟨zr5, hzr5⟩ : ∃ b : Bool, (zc2 || zc4) = b := ⟨_, rfl⟩
    refine wa_do (some 26) (.bool zr5) (by kernel_rfl) (by kernel_rfl) (by subst hzr5; cases zc2 <;> (subst hzg3; kernel_rfl)) ?_
    refine wa_nil ?_
    refine la_code ?_
    cases zr5 with
    | true =>
      have hq2 : ((((c.first.length : Int) == 0)) || (((c.first.length : Int) != c.sizes.length))) = true := by rw [hzc2, hzc4, hzr5]
      simp only [sB] at hq2
      have hfin := codeE_form (c := c) h3000 hq2
      refine ca_true (by kernel_rfl) (by kernel_rfl) ?_
      refine ca_seq ?_
      refine ca_region ?_
      refine wa_q (some 2) (.int .i64 1) (by kernel_rfl) ?_
      refine wa_nil ?_
      refine la_code ?_
      refine ca_ret ?_
      refine la_then_ret ?_
      refine la_ret1 2 (.int .i64 1) rfl (by kernel_rfl) ?_
      exact ⟨by rw [hfin], HBC⟩
    | false =>
      have hq2 : ((((c.first.length : Int) == 0)) || (((c.first.length : Int) != c.sizes.length))) = false := by rw [hzc2, hzc4, hzr5]
      simp only [sB] at hq2
      have hform : ¬ ((c.first.length : Int) = 0 ∨ ¬ (c.first.length : Int) = c.sizes.length) := by omega
      have hF0 : ∀ k y, k < 0 → c.first[k]? = some y → 0 ≤ y ∧ y ≤ (c.ins.length : Int) - 1 := fun k y h => by omega
      have hS0 : ∀ k z, k < 0 → c.sizes[k]? = some z → ∀ y ∈ z, 0 ≤ y ∧ y ≤ (8 : Int) := fun k z h => by omega
      refine ca_false (by kernel_rfl) (by kernel_rfl) ?_
      refine ca_skip ?_
      refine la_code ?_
      refine ca_seq ?_
      refine ca_seq ?_
      refine ca_region ?_
      refine wa_q (some 4) (.int .i64 0) (by kernel_rfl) ?_
      refine wa_nil ?_
      refine la_code ?_
      refine ca_block ?_
      refine ca_loop (α := Nat) (fun i W => i ≤ c.first.length ∧ (∀ k y, k < i → c.first[k]? = some y → 0 ≤ y ∧ y ≤ (c.ins.length : Int) - 1) ∧ (∀ k z, k < i → c.sizes[k]? = some z → ∀ y ∈ z, 0 ≤ y ∧ y ≤ (8 : Int)) ∧ Bel W1 W) (fun i => [(1, .pointer (some ⟨Q, 0, none⟩)), (3, .int .i64 c.ins.length), (4, .int .i64 (i : Int))]) (fun i => c.first.length - i) 0 [1, 3, 4] (by kernel_rfl) ⟨Nat.zero_le _, hF0, hS0, HBK⟩ ?_
      clear HBC HBK hF0 hS0
      rintro i WC ⟨hi, hFi, hSi, HBK⟩
      have HBC := HB1.tr HBK
      refine ca_seq ?_
      refine ca_seq ?_
      refine ca_region ?_
      refine wa_q (some 27) (.int .i64 (i : Int)) (by kernel_rfl) ?_
      refine wa_q (some 28) (.pointer (some ⟨Q, 1, none⟩)) (by kernel_rfl) ?_
      refine wa_do (some 29) (.slice Af c.first.length cf) (by kernel_rfl) (by kernel_rfl) (rl_is rfl (by kernel_rfl) ((HC1.keep HBK).cell (i := 1) rfl)) ?_
      refine wa_q (some 30) (.int .i64 c.first.length) (by kernel_rfl) ?_
      obtain ⟨zc6, hzc6⟩ : ∃ b : Bool, decide (((i : Int) : Int) < c.first.length) = b := ⟨_, rfl⟩
      refine wa_do (some 31) (.bool zc6) (by kernel_rfl) (by kernel_rfl) (rb_lssI (k := (i : Int)) (l := c.first.length) rfl (by kernel_rfl) (by kernel_rfl) hzc6) ?_
      refine wa_nil ?_
      refine la_code ?_
      cases zc6 with
      | true =>
        have hq3 : (decide (((i : Int) : Int) < c.first.length)) = true := by rw [hzc6]
        simp only [sB] at hq3
        have hil : i < c.first.length := by omega
        have hiz : i < c.sizes.length := by omega
        obtain ⟨y, hy0⟩ : ∃ y, c.first[i]? = some y := ⟨_, List.getElem?_eq_getElem hil⟩
        obtain ⟨bf, of, rfl, hy⟩ := vars_cell hf hy0
        obtain ⟨z, hz0⟩ : ∃ z, c.sizes[i]? = some z := ⟨_, List.getElem?_eq_getElem hiz⟩
        obtain ⟨bz, oz, cs, rfl, HCS, hcz⟩ := hz.elem hz0
        obtain ⟨ve, rfl, hze⟩ := HCS
        obtain ⟨Ae, ce, rfl, hlze⟩ := sl_lit hze
        have hzc : w.cell? ⟨bz, oz + i, none⟩ = some (.slice Ae z.length ce) := by have := hcz 0 _ rfl; rwa [show intsR.size = 1 from rfl, Nat.mul_one] at this
        have hZ0 : ∀ m y, m < 0 → z[m]? = some y → 0 ≤ y ∧ y ≤ (8 : Int) := fun m y h => by omega
        refine ca_true (by kernel_rfl) (by kernel_rfl) ?_
        refine ca_skip ?_
        refine la_code ?_
        refine ca_seq ?_
        refine ca_block ?_
        refine ca_seq ?_
        refine ca_seq ?_
        refine ca_region ?_
        refine wa_q (some 34) (.pointer (some ⟨Q, 1, none⟩)) (by kernel_rfl) ?_
        refine wa_do (some 35) (.slice (some ⟨bf, of, none⟩) c.first.length cf) (by kernel_rfl) (by kernel_rfl) (rl_is rfl (by kernel_rfl) ((HC1.keep HBK).cell (i := 1) rfl)) ?_
        refine wa_q (some 36) (.int .i64 (i : Int)) (by kernel_rfl) ?_
        refine wa_do (some 37) (.pointer (some ⟨bf, of + i, none⟩)) (by kernel_rfl) (by kernel_rfl) (run_ix1 elI bf of c.first.length cf i rfl (by kernel_rfl) (by kernel_rfl) hil) ?_
        refine wa_do (some 38) (.int .i64 y) (by kernel_rfl) (by kernel_rfl) (rl_int rfl (by kernel_rfl) (Bel.cell HBC hy)) ?_
        refine wa_q (some 39) (.int .i64 c.ins.length) (by kernel_rfl) ?_
        refine wa_do (some 40) (.int .i64 ((c.ins.length : Int) - 1)) (by kernel_rfl) (by kernel_rfl) (rb_subI (k := c.ins.length) (l := 1) rfl (by kernel_rfl) (by kernel_rfl) (by omega) (by omega) rfl) ?_
        obtain ⟨zw1, hzw1⟩ : ∃ b : Bool, decide ((0 : Int) ≤ y ∧ y ≤ ((c.ins.length : Int) - 1)) = b := ⟨_, rfl⟩
        refine wa_sy (some 41) (.bool zw1) (by kernel_rfl) (by kernel_rfl) 48 #[.int .i64 y, .int .i64 0, .int .i64 ((c.ins.length : Int) - 1)] (by kernel_rfl) (keepBt hzw1) ?_
        intro WD hb
        replace HBC := HBC.tr hb
        replace HBK := HBK.tr hb
        clear hb
        obtain ⟨zr7, hzr7⟩ : ∃ b : Bool, (!zw1) = b := ⟨_, rfl⟩
        refine wa_do (some 42) (.bool zr7) (by kernel_rfl) (by kernel_rfl) (by subst hzr7; kernel_rfl) ?_
        refine wa_nil ?_
        refine la_code ?_
        cases zr7 with
        | true =>
          have hq4 : (!(decide ((0 : Int) ≤ y ∧ y ≤ ((c.ins.length : Int) - 1)))) = true := by rw [hzw1, hzr7]
          simp only [sB] at hq4
          have hfin := codeE_range h3000 hform (not_first hy0 (by omega))
          refine ca_true (by kernel_rfl) (by kernel_rfl) ?_
          refine ca_seq ?_
          refine ca_region ?_
          refine wa_q (some 2) (.int .i64 3) (by kernel_rfl) ?_
          refine wa_nil ?_
          refine la_code ?_
          refine ca_ret ?_
          refine la_then_ret ?_
          refine la_block_ret ?_
          refine la_then_ret ?_
          refine la_then_ret ?_
          refine la_block_ret ?_
          refine la_then_ret ?_
          refine la_ret1 2 (.int .i64 3) rfl (by kernel_rfl) ?_
          exact ⟨by rw [hfin], HBC⟩
        | false =>
          have hq4 : (!(decide ((0 : Int) ≤ y ∧ y ≤ ((c.ins.length : Int) - 1)))) = false := by rw [hzw1, hzr7]
          simp only [sB] at hq4
          have hFn : ∀ k u, k < i + 1 → c.first[k]? = some u → 0 ≤ u ∧ u ≤ (c.ins.length : Int) - 1 := fun k u h1 h2 => by
            by_cases h : k = i
            · subst h
              rw [hy0] at h2
              injection h2 with h2
              omega
            · exact hFi k u (by omega) h2
          refine ca_false (by kernel_rfl) (by kernel_rfl) ?_
          refine ca_skip ?_
          refine la_code ?_
          refine ca_seq ?_
          refine ca_region ?_
          refine wa_q (some 5) (.int .i64 0) (by kernel_rfl) ?_
          refine wa_nil ?_
          refine la_code ?_
          refine ca_block ?_
          refine ca_loop (α := Nat) (fun k W => k ≤ z.length ∧ (∀ m y, m < k → z[m]? = some y → 0 ≤ y ∧ y ≤ (8 : Int)) ∧ Bel W1 W) (fun k => [(1, .pointer (some ⟨Q, 0, none⟩)), (3, .int .i64 c.ins.length), (4, .int .i64 (i : Int)), (5, .int .i64 (k : Int))]) (fun k => z.length - k) 0 [1, 3, 4, 5] (by kernel_rfl) ⟨Nat.zero_le _, hZ0, HBK⟩ ?_
          clear HBC HBK hZ0
          rintro k WL ⟨hk, hZk, HBK⟩
          have HBC := HB1.tr HBK
          refine ca_seq ?_
          refine ca_seq ?_
          refine ca_region ?_
          refine wa_q (some 43) (.int .i64 (k : Int)) (by kernel_rfl) ?_
          refine wa_q (some 44) (.pointer (some ⟨Q, 2, none⟩)) (by kernel_rfl) ?_
          refine wa_do (some 45) (.slice (some ⟨bz, oz, none⟩) c.sizes.length cz) (by kernel_rfl) (by kernel_rfl) (rl_vvM rfl (by kernel_rfl) ((HC1.keep HBK).cell (i := 2) rfl)) ?_
          refine wa_q (some 46) (.int .i64 (i : Int)) (by kernel_rfl) ?_
          refine wa_do (some 47) (.pointer (some ⟨bz, oz + i, none⟩)) (by kernel_rfl) (by kernel_rfl) (run_ix1 elII bz oz c.sizes.length cz i rfl (by kernel_rfl) (by kernel_rfl) hiz) ?_
          refine wa_do (some 48) (.slice Ae z.length ce) (by kernel_rfl) (by kernel_rfl) (rl_is rfl (by kernel_rfl) (Bel.cell HBC hzc)) ?_
          refine wa_q (some 49) (.int .i64 z.length) (by kernel_rfl) ?_
          obtain ⟨zc8, hzc8⟩ : ∃ b : Bool, decide (((k : Int) : Int) < z.length) = b := ⟨_, rfl⟩
          refine wa_do (some 50) (.bool zc8) (by kernel_rfl) (by kernel_rfl) (rb_lssI (k := (k : Int)) (l := z.length) rfl (by kernel_rfl) (by kernel_rfl) hzc8) ?_
          refine wa_nil ?_
          refine la_code ?_
          cases zc8 with
          | true =>
            have hq5 : (decide (((k : Int) : Int) < z.length)) = true := by rw [hzc8]
            simp only [sB] at hq5
            have hkl : k < z.length := by omega
            obtain ⟨u, hu0⟩ : ∃ u, z[k]? = some u := ⟨_, List.getElem?_eq_getElem hkl⟩
            obtain ⟨be, oe, rfl, hu⟩ := vars_cell hze hu0
            refine ca_true (by kernel_rfl) (by kernel_rfl) ?_
            refine ca_skip ?_
            refine la_code ?_
            refine ca_seq ?_
            refine ca_block ?_
            refine ca_seq ?_
            refine ca_region ?_
            refine wa_q (some 53) (.pointer (some ⟨Q, 2, none⟩)) (by kernel_rfl) ?_
            refine wa_do (some 54) (.slice (some ⟨bz, oz, none⟩) c.sizes.length cz) (by kernel_rfl) (by kernel_rfl) (rl_vvM rfl (by kernel_rfl) ((HC1.keep HBK).cell (i := 2) rfl)) ?_
            refine wa_q (some 55) (.int .i64 (i : Int)) (by kernel_rfl) ?_
            refine wa_do (some 56) (.pointer (some ⟨bz, oz + i, none⟩)) (by kernel_rfl) (by kernel_rfl) (run_ix1 elII bz oz c.sizes.length cz i rfl (by kernel_rfl) (by kernel_rfl) hiz) ?_
            refine wa_do (some 57) (.slice (some ⟨be, oe, none⟩) z.length ce) (by kernel_rfl) (by kernel_rfl) (rl_is rfl (by kernel_rfl) (Bel.cell HBC hzc)) ?_
            refine wa_q (some 58) (.int .i64 (k : Int)) (by kernel_rfl) ?_
            refine wa_do (some 59) (.pointer (some ⟨be, oe + k, none⟩)) (by kernel_rfl) (by kernel_rfl) (run_ix1 elI be oe z.length ce k rfl (by kernel_rfl) (by kernel_rfl) hkl) ?_
            refine wa_do (some 60) (.int .i64 u) (by kernel_rfl) (by kernel_rfl) (rl_int rfl (by kernel_rfl) (Bel.cell HBC hu)) ?_
            obtain ⟨zw2, hzw2⟩ : ∃ b : Bool, decide ((0 : Int) ≤ u ∧ u ≤ 8) = b := ⟨_, rfl⟩
            refine wa_sy (some 61) (.bool zw2) (by kernel_rfl) (by kernel_rfl) 48 #[.int .i64 u, .int .i64 0, .int .i64 8] (by kernel_rfl) (keepBt hzw2) ?_
            intro WD hb
            replace HBC := HBC.tr hb
            replace HBK := HBK.tr hb
            clear hb
            obtain ⟨zr9, hzr9⟩ : ∃ b : Bool, (!zw2) = b := ⟨_, rfl⟩
            refine wa_do (some 62) (.bool zr9) (by kernel_rfl) (by kernel_rfl) (by subst hzr9; kernel_rfl) ?_
            refine wa_nil ?_
            refine la_code ?_
            cases zr9 with
            | true =>
              have hq6 : (!(decide ((0 : Int) ≤ u ∧ u ≤ 8))) = true := by rw [hzw2, hzr9]
              simp only [sB] at hq6
              have hfin := codeE_range h3000 hform (not_sizes hz0 hu0 (by omega))
              refine ca_true (by kernel_rfl) (by kernel_rfl) ?_
              refine ca_seq ?_
              refine ca_region ?_
              refine wa_q (some 2) (.int .i64 3) (by kernel_rfl) ?_
              refine wa_nil ?_
              refine la_code ?_
              refine ca_ret ?_
              refine la_block_ret ?_
              refine la_then_ret ?_
              refine la_then_ret ?_
              refine la_block_ret ?_
              refine la_block_ret ?_
              refine la_then_ret ?_
              refine la_then_ret ?_
              refine la_block_ret ?_
              refine la_then_ret ?_
              refine la_ret1 2 (.int .i64 3) rfl (by kernel_rfl) ?_
              exact ⟨by rw [hfin], HBC⟩
            | false =>
              have hq6 : (!(decide ((0 : Int) ≤ u ∧ u ≤ 8))) = false := by rw [hzw2, hzr9]
              simp only [sB] at hq6
              have hZn : ∀ m y, m < k + 1 → z[m]? = some y → 0 ≤ y ∧ y ≤ (8 : Int) := fun m y h1 h2 => by
                by_cases h : m = k
                · subst h
                  rw [hu0] at h2
                  injection h2 with h2
                  omega
                · exact hZk m y (by omega) h2
              refine ca_false (by kernel_rfl) (by kernel_rfl) ?_
              refine ca_skip ?_
              refine la_block_normal ?_
              refine la_code ?_
              refine ca_region ?_
              refine wa_q (some 51) (.int .i64 (k : Int)) (by kernel_rfl) ?_
              refine wa_do (some 52) (.int .i64 ((k : Int) + 1)) (by kernel_rfl) (by kernel_rfl) (rb_add64 (k := (k : Int)) (l := 1) rfl (by kernel_rfl) (by kernel_rfl) (by omega) (by omega) rfl) ?_
              refine wa_q (some 5) (.int .i64 ((k : Int) + 1)) (by kernel_rfl) ?_
              refine wa_nil ?_
              refine la_meet (k + 1) [1, 3, 4, 5] (by kernel_rfl) ⟨⟨by omega, hZn, HBK⟩, by omega⟩
          | false =>
            have hq5 : (decide (((k : Int) : Int) < z.length)) = false := by rw [hzc8]
            simp only [sB] at hq5
            have hSn : ∀ k2 z2, k2 < i + 1 → c.sizes[k2]? = some z2 → ∀ y ∈ z2, 0 ≤ y ∧ y ≤ (8 : Int) := fun k2 z2 h1 h2 => by
              by_cases h : k2 = i
              · subst h
                rw [hz0] at h2
                injection h2 with h2
                subst h2
                intro y hy2
                obtain ⟨m, hm⟩ := List.getElem?_of_mem hy2
                exact hZk m y (by have := (List.getElem?_eq_some_iff.1 hm).1; omega) hm
              · exact hSi k2 z2 (by omega) h2
            refine ca_false (by kernel_rfl) (by kernel_rfl) ?_
            refine ca_exit ?_
            refine la_then_exit ?_
            refine la_then_exit ?_
            refine la_block_hit ?_
            refine la_block_normal ?_
            refine la_code ?_
            refine ca_region ?_
            refine wa_q (some 32) (.int .i64 (i : Int)) (by kernel_rfl) ?_
            refine wa_do (some 33) (.int .i64 ((i : Int) + 1)) (by kernel_rfl) (by kernel_rfl) (rb_add64 (k := (i : Int)) (l := 1) rfl (by kernel_rfl) (by kernel_rfl) (by omega) (by omega) rfl) ?_
            refine wa_q (some 4) (.int .i64 ((i : Int) + 1)) (by kernel_rfl) ?_
            refine wa_nil ?_
            refine la_meet (i + 1) [1, 3, 4] (by kernel_rfl) ⟨⟨by omega, hFn, hSn, HBK⟩, by omega⟩
      | false =>
        have hq3 : (decide (((i : Int) : Int) < c.first.length)) = false := by rw [hzc6]
        simp only [sB] at hq3
        have hall : FirstOk c ∧ SizesOk_ c := ⟨fun y hy => by obtain ⟨k, hk⟩ := List.getElem?_of_mem hy; exact hFi k y (by have := (List.getElem?_eq_some_iff.1 hk).1; omega) hk, fun z hz => by obtain ⟨k, hk⟩ := List.getElem?_of_mem hz; exact hSi k z (by have := (List.getElem?_eq_some_iff.1 hk).1; omega) hk⟩
        have hins := codeE_ins h3000 hform hall
        obtain ⟨T, hT⟩ : ∃ T, insEs c c.ins = T := ⟨_, rfl⟩
        have hT0 : insEs c (c.ins.drop 0) = T := hT
        rw [hT] at hins
        refine ca_false (by kernel_rfl) (by kernel_rfl) ?_
        refine ca_exit ?_
        refine la_then_exit ?_
        refine la_then_exit ?_
        refine la_block_hit ?_
        refine la_code ?_
        refine ca_seq ?_
        refine ca_seq ?_
        refine ca_region ?_
        refine wa_q (some 6) (.int .i64 0) (by kernel_rfl) ?_
        refine wa_nil ?_
        refine la_code ?_
        refine ca_block ?_
        refine ca_loop (α := Nat) (fun j W => j ≤ c.ins.length ∧ insEs c (c.ins.drop j) = T ∧ Bel W1 W) (fun j => [(1, .pointer (some ⟨Q, 0, none⟩)), (3, .int .i64 c.ins.length), (6, .int .i64 (j : Int))]) (fun j => c.ins.length - j) 0 [1, 3, 6] (by kernel_rfl) ⟨Nat.zero_le _, hT0, HBK⟩ ?_
        clear HBC HBK hT0
        rintro j WC ⟨hj, hTj, HBK⟩
        have HBC := HB1.tr HBK
        refine ca_seq ?_
        refine ca_seq ?_
        refine ca_region ?_
        refine wa_q (some 63) (.int .i64 (j : Int)) (by kernel_rfl) ?_
        refine wa_q (some 64) (.int .i64 c.ins.length) (by kernel_rfl) ?_
        obtain ⟨zc10, hzc10⟩ : ∃ b : Bool, decide (((j : Int) : Int) < c.ins.length) = b := ⟨_, rfl⟩
        refine wa_do (some 65) (.bool zc10) (by kernel_rfl) (by kernel_rfl) (rb_lssI (k := (j : Int)) (l := c.ins.length) rfl (by kernel_rfl) (by kernel_rfl) hzc10) ?_
        refine wa_nil ?_
        refine la_code ?_
        cases zc10 with
        | true =>
          have hq7 : (decide (((j : Int) : Int) < c.ins.length)) = true := by rw [hzc10]
          simp only [sB] at hq7
          have hjl : j < c.ins.length := by omega
          obtain ⟨x, hx⟩ : ∃ x, c.ins[j]? = some x := ⟨_, List.getElem?_eq_getElem hjl⟩
          obtain ⟨b, f, cs, rfl, HCS, hca⟩ := hs.elem hx
          obtain rfl : cs = x.cells := HCS
          have hTd := insEs_drop (c := c) hx
          refine ca_true (by kernel_rfl) (by kernel_rfl) ?_
          refine ca_skip ?_
          refine la_code ?_
          refine ca_seq ?_
          refine ca_block ?_
          refine ca_seq ?_
          refine ca_region ?_
          refine wa_q (some 68) (.pointer (some ⟨Q, 0, none⟩)) (by kernel_rfl) ?_
          refine wa_do (some 69) (.slice (some ⟨b, f, none⟩) c.ins.length ci) (by kernel_rfl) (by kernel_rfl) (rl_ins rfl (by kernel_rfl) ((HC1.keep HBK).cell (i := 0) rfl)) ?_
          refine wa_q (some 70) (.int .i64 (j : Int)) (by kernel_rfl) ?_
          refine wa_do (some 71) (.pointer (some ⟨b, f + j * 3, none⟩)) (by kernel_rfl) (by kernel_rfl) (run_ix elIN b f c.ins.length ci j rfl (by kernel_rfl) (by kernel_rfl) hjl) ?_
          refine wa_copy INS (.tmp 71) 72 7 ⟨rfl, rfl, rfl⟩ ⟨rfl, rfl, rfl⟩ ⟨rfl, rfl, rfl⟩ (by kernel_rfl) b (f + j * 3) (by kernel_rfl) (by kernel_rfl) [.int .i64 x.kind, .int .i64 x.a, .int .i64 x.b] (fun i u hu => Bel.cell HBC (hca i u hu)) elIN (by kernel_rfl) rfl (ins_one x) ?_
          have HX := Blk.new WC INS #[.int .i64 x.kind, .int .i64 x.a, .int .i64 x.b]
          replace HBC := HBC.al (.cells #[.int .i64 x.kind, .int .i64 x.a, .int .i64 x.b] INS)
          replace HBK := HBK.al (.cells #[.int .i64 x.kind, .int .i64 x.a, .int .i64 x.b] INS)
          generalize WC.alloc (.cells #[.int .i64 x.kind, .int .i64 x.a, .int .i64 x.b] INS) = W5 at *
          generalize WC.heap.size = xb at *
          have HBX := Bel.rfl_ W5
          have HBC5 := HBC
          have HBK5 := HBK
          refine wa_nil ?_
          refine la_code ?_
          refine ca_seq ?_
          refine ca_seq ?_
          refine ca_region ?_
          refine wa_q (some 73) (.pointer (some ⟨xb, 0, none⟩)) (by kernel_rfl) ?_
          refine wa_do (some 74) (.int .i64 x.kind) (by kernel_rfl) (by kernel_rfl) (rl_int rfl (by kernel_rfl) ((HX.keep HBX).cell (i := 0) rfl)) ?_
          obtain ⟨zw3, hzw3⟩ : ∃ b : Bool, decide ((1 : Int) ≤ x.kind ∧ x.kind ≤ 14) = b := ⟨_, rfl⟩
          refine wa_sy (some 75) (.bool zw3) (by kernel_rfl) (by kernel_rfl) 48 #[.int .i64 x.kind, .int .i64 1, .int .i64 14] (by kernel_rfl) (keepBt hzw3) ?_
          intro WD hb
          replace HBC := HBC.tr hb
          replace HBK := HBK.tr hb
          replace HBX := HBX.tr hb
          clear hb
          obtain ⟨zr11, hzr11⟩ : ∃ b : Bool, (!zw3) = b := ⟨_, rfl⟩
          refine wa_do (some 76) (.bool zr11) (by kernel_rfl) (by kernel_rfl) (by subst hzr11; kernel_rfl) ?_
          refine wa_nil ?_
          refine la_code ?_
          cases zr11 with
          | true =>
            have hq8 : (!(decide ((1 : Int) ≤ x.kind ∧ x.kind ≤ 14))) = true := by rw [hzw3, hzr11]
            simp only [sB] at hq8
            have hEx : insE c x = 7 := by unfold insE; rw [if_pos (by omega)]
            have hfin : codeE c = 7 := by rw [hins, ← hTj, hTd, if_pos (by rw [hEx]; decide), hEx]
            refine ca_true (by kernel_rfl) (by kernel_rfl) ?_
            refine ca_seq ?_
            refine ca_region ?_
            refine wa_q (some 2) (.int .i64 7) (by kernel_rfl) ?_
            refine wa_nil ?_
            refine la_code ?_
            refine ca_ret ?_
            refine la_then_ret ?_
            refine la_block_ret ?_
            refine la_then_ret ?_
            refine la_then_ret ?_
            refine la_block_ret ?_
            refine la_then_ret ?_
            refine la_ret1 2 (.int .i64 7) rfl (by kernel_rfl) ?_
            exact ⟨by rw [hfin], HBC⟩
          | false =>
            have hq8 : (!(decide ((1 : Int) ≤ x.kind ∧ x.kind ≤ 14))) = false := by rw [hzw3, hzr11]
            simp only [sB] at hq8
            have hkk : ¬ ¬ (1 ≤ x.kind ∧ x.kind ≤ 14) := by omega
            refine ca_false (by kernel_rfl) (by kernel_rfl) ?_
            refine ca_skip ?_
            refine la_code ?_
            refine ca_seq ?_
            refine ca_region ?_
            refine wa_q (some 8) (.bool true) (by kernel_rfl) ?_
            refine wa_nil ?_
            refine la_code ?_
            refine ca_cut (α := Unit) (fun _ W => Bel W5 W) (fun _ => [(1, .pointer (some ⟨Q, 0, none⟩)), (3, .int .i64 c.ins.length), (6, .int .i64 (j : Int)), (7, .pointer (some ⟨xb, 0, none⟩)), (8, .bool (insA c x))]) ?_ ?_
            · skip
              refine ca_seq ?_
              refine ca_region ?_
              refine wa_q (some 77) (.pointer (some ⟨xb, 0, none⟩)) (by kernel_rfl) ?_
              refine wa_do (some 78) (.int .i64 x.kind) (by kernel_rfl) (by kernel_rfl) (rl_int rfl (by kernel_rfl) ((HX.keep HBX).cell (i := 0) rfl)) ?_
              refine wa_nil ?_
              refine la_code ?_
              refine ca_block ?_
              refine ca_seq ?_
              refine ca_region ?_
              obtain ⟨zc12, hzc12⟩ : ∃ b : Bool, ((x.kind : Int) == 2) = b := ⟨_, rfl⟩
              refine wa_do (some 80) (.bool zc12) (by kernel_rfl) (by kernel_rfl) (rb_eqlI (k := x.kind) (l := 2) rfl (by kernel_rfl) (by kernel_rfl) hzc12) ?_
              refine wa_q (some 79) (.bool zc12) (by kernel_rfl) ?_
              refine wa_nil ?_
              refine la_code ?_
              cases zc12 with
              | true =>
                have hk79 : (((x.kind : Int) == 2)) = true := by rw [hzc12]
                simp only [sB] at hk79
                refine ca_true (by kernel_rfl) (by kernel_rfl) ?_
                refine ca_region ?_
                refine wa_q (some 81) (.pointer (some ⟨xb, 1, none⟩)) (by kernel_rfl) ?_
                refine wa_do (some 82) (.int .i64 x.a) (by kernel_rfl) (by kernel_rfl) (rl_int rfl (by kernel_rfl) ((HX.keep HBX).cell (i := 1) rfl)) ?_
                obtain ⟨zn0, hzn0⟩ : ∃ b : Bool, decide (Num x.a) = b := ⟨_, rfl⟩
                refine wa_sy (some 83) (.bool zn0) (by kernel_rfl) (by kernel_rfl) 49 #[.int .i64 x.a] (by kernel_rfl) (hzn0 ▸ (isNumber_any x.a _).mono (fun r W h => ⟨h.1, h.2 ▸ Bel.rfl_ _⟩)) ?_
                intro WD hb
                replace HBC := HBC.tr hb
                replace HBK := HBK.tr hb
                replace HBX := HBX.tr hb
                clear hb
                refine wa_q (some 8) (.bool zn0) (by kernel_rfl) ?_
                refine wa_nil ?_
                refine la_block_normal ?_
                have hA : insA c x = zn0 := by
                  unfold insA
                  rw [if_pos (by omega)]
                  have h1 : (decide (Num x.a)) = zn0 := by rw [hzn0]
                  exact h1
                refine la_meet () [1, 3, 6, 7, 8] (by rw [hA]; kernel_rfl) HBX
              | false =>
                have hk79 : (((x.kind : Int) == 2)) = false := by rw [hzc12]
                simp only [sB] at hk79
                refine ca_false (by kernel_rfl) (by kernel_rfl) ?_
                refine ca_seq ?_
                refine ca_seq ?_
                refine ca_region ?_
                obtain ⟨zc13, hzc13⟩ : ∃ b : Bool, ((x.kind : Int) == 10) = b := ⟨_, rfl⟩
                refine wa_do (some 85) (.bool zc13) (by kernel_rfl) (by kernel_rfl) (rb_eqlI (k := x.kind) (l := 10) rfl (by kernel_rfl) (by kernel_rfl) hzc13) ?_
                refine wa_q (some 84) (.bool zc13) (by kernel_rfl) ?_
                refine wa_nil ?_
                refine la_code ?_
                cases zc13 with
                | true =>
                  have hk84 : (((x.kind : Int) == 10)) = true := by rw [hzc13]
                  simp only [sB] at hk84
                  refine ca_true (by kernel_rfl) (by kernel_rfl) ?_
                  refine ca_skip ?_
                  refine la_code ?_
                  refine ca_true (by kernel_rfl) (by kernel_rfl) ?_
                  refine ca_region ?_
                  refine wa_q (some 87) (.pointer (some ⟨xb, 1, none⟩)) (by kernel_rfl) ?_
                  refine wa_do (some 88) (.int .i64 x.a) (by kernel_rfl) (by kernel_rfl) (rl_int rfl (by kernel_rfl) ((HX.keep HBX).cell (i := 1) rfl)) ?_
                  refine wa_q (some 89) (.int .i64 c.ins.length) (by kernel_rfl) ?_
                  refine wa_do (some 90) (.int .i64 ((c.ins.length : Int) - 1)) (by kernel_rfl) (by kernel_rfl) (rb_subI (k := c.ins.length) (l := 1) rfl (by kernel_rfl) (by kernel_rfl) (by omega) (by omega) rfl) ?_
                  obtain ⟨zw4, hzw4⟩ : ∃ b : Bool, decide ((0 : Int) ≤ x.a ∧ x.a ≤ ((c.ins.length : Int) - 1)) = b := ⟨_, rfl⟩
                  refine wa_sy (some 91) (.bool zw4) (by kernel_rfl) (by kernel_rfl) 48 #[.int .i64 x.a, .int .i64 0, .int .i64 ((c.ins.length : Int) - 1)] (by kernel_rfl) (keepBt hzw4) ?_
                  intro WD hb
                  replace HBC := HBC.tr hb
                  replace HBK := HBK.tr hb
                  replace HBX := HBX.tr hb
                  clear hb
                  refine wa_q (some 8) (.bool zw4) (by kernel_rfl) ?_
                  refine wa_nil ?_
                  refine la_block_normal ?_
                  have hA : insA c x = zw4 := by
                    unfold insA
                    rw [if_neg (by omega), if_pos (by omega)]
                    have h1 : (decide ((0 : Int) ≤ x.a ∧ x.a ≤ ((c.ins.length : Int) - 1))) = zw4 := by rw [hzw4]
                    exact h1
                  refine la_meet () [1, 3, 6, 7, 8] (by rw [hA]; kernel_rfl) HBX
                | false =>
                  have hk84 : (((x.kind : Int) == 10)) = false := by rw [hzc13]
                  simp only [sB] at hk84
                  refine ca_false (by kernel_rfl) (by kernel_rfl) ?_
                  refine ca_region ?_
                  obtain ⟨zc14, hzc14⟩ : ∃ b : Bool, ((x.kind : Int) == 11) = b := ⟨_, rfl⟩
                  refine wa_do (some 86) (.bool zc14) (by kernel_rfl) (by kernel_rfl) (rb_eqlI (k := x.kind) (l := 11) rfl (by kernel_rfl) (by kernel_rfl) hzc14) ?_
                  refine wa_q (some 84) (.bool zc14) (by kernel_rfl) ?_
                  refine wa_nil ?_
                  refine la_code ?_
                  cases zc14 with
                  | true =>
                    have hk84 : (((x.kind : Int) == 11)) = true := by rw [hzc14]
                    simp only [sB] at hk84
                    refine ca_true (by kernel_rfl) (by kernel_rfl) ?_
                    refine ca_region ?_
                    refine wa_q (some 87) (.pointer (some ⟨xb, 1, none⟩)) (by kernel_rfl) ?_
                    refine wa_do (some 88) (.int .i64 x.a) (by kernel_rfl) (by kernel_rfl) (rl_int rfl (by kernel_rfl) ((HX.keep HBX).cell (i := 1) rfl)) ?_
                    refine wa_q (some 89) (.int .i64 c.ins.length) (by kernel_rfl) ?_
                    refine wa_do (some 90) (.int .i64 ((c.ins.length : Int) - 1)) (by kernel_rfl) (by kernel_rfl) (rb_subI (k := c.ins.length) (l := 1) rfl (by kernel_rfl) (by kernel_rfl) (by omega) (by omega) rfl) ?_
                    obtain ⟨zw5, hzw5⟩ : ∃ b : Bool, decide ((0 : Int) ≤ x.a ∧ x.a ≤ ((c.ins.length : Int) - 1)) = b := ⟨_, rfl⟩
                    refine wa_sy (some 91) (.bool zw5) (by kernel_rfl) (by kernel_rfl) 48 #[.int .i64 x.a, .int .i64 0, .int .i64 ((c.ins.length : Int) - 1)] (by kernel_rfl) (keepBt hzw5) ?_
                    intro WD hb
                    replace HBC := HBC.tr hb
                    replace HBK := HBK.tr hb
                    replace HBX := HBX.tr hb
                    clear hb
                    refine wa_q (some 8) (.bool zw5) (by kernel_rfl) ?_
                    refine wa_nil ?_
                    refine la_block_normal ?_
                    have hA : insA c x = zw5 := by
                      unfold insA
                      rw [if_neg (by omega), if_pos (by omega)]
                      have h1 : (decide ((0 : Int) ≤ x.a ∧ x.a ≤ ((c.ins.length : Int) - 1))) = zw5 := by rw [hzw5]
                      exact h1
                    refine la_meet () [1, 3, 6, 7, 8] (by rw [hA]; kernel_rfl) HBX
                  | false =>
                    have hk84 : (((x.kind : Int) == 11)) = false := by rw [hzc14]
                    simp only [sB] at hk84
                    refine ca_false (by kernel_rfl) (by kernel_rfl) ?_
                    refine ca_seq ?_
                    refine ca_region ?_
                    obtain ⟨zc15, hzc15⟩ : ∃ b : Bool, ((x.kind : Int) == 5) = b := ⟨_, rfl⟩
                    refine wa_do (some 93) (.bool zc15) (by kernel_rfl) (by kernel_rfl) (rb_eqlI (k := x.kind) (l := 5) rfl (by kernel_rfl) (by kernel_rfl) hzc15) ?_
                    refine wa_q (some 92) (.bool zc15) (by kernel_rfl) ?_
                    refine wa_nil ?_
                    refine la_code ?_
                    cases zc15 with
                    | true =>
                      have hk92 : (((x.kind : Int) == 5)) = true := by rw [hzc15]
                      simp only [sB] at hk92
                      refine ca_true (by kernel_rfl) (by kernel_rfl) ?_
                      refine ca_region ?_
                      refine wa_q (some 94) (.pointer (some ⟨xb, 1, none⟩)) (by kernel_rfl) ?_
                      refine wa_do (some 95) (.int .i64 x.a) (by kernel_rfl) (by kernel_rfl) (rl_int rfl (by kernel_rfl) ((HX.keep HBX).cell (i := 1) rfl)) ?_
                      obtain ⟨zw6, hzw6⟩ : ∃ b : Bool, decide ((4 : Int) ≤ x.a ∧ x.a ≤ 10) = b := ⟨_, rfl⟩
                      refine wa_sy (some 96) (.bool zw6) (by kernel_rfl) (by kernel_rfl) 48 #[.int .i64 x.a, .int .i64 4, .int .i64 10] (by kernel_rfl) (keepBt hzw6) ?_
                      intro WD hb
                      replace HBC := HBC.tr hb
                      replace HBK := HBK.tr hb
                      replace HBX := HBX.tr hb
                      clear hb
                      refine wa_q (some 8) (.bool zw6) (by kernel_rfl) ?_
                      refine wa_nil ?_
                      refine la_block_normal ?_
                      have hA : insA c x = zw6 := by
                        unfold insA
                        rw [if_neg (by omega), if_neg (by omega), if_pos (by omega)]
                        have h1 : (decide ((4 : Int) ≤ x.a ∧ x.a ≤ 10)) = zw6 := by rw [hzw6]
                        exact h1
                      refine la_meet () [1, 3, 6, 7, 8] (by rw [hA]; kernel_rfl) HBX
                    | false =>
                      have hk92 : (((x.kind : Int) == 5)) = false := by rw [hzc15]
                      simp only [sB] at hk92
                      refine ca_false (by kernel_rfl) (by kernel_rfl) ?_
                      refine ca_seq ?_
                      refine ca_region ?_
                      obtain ⟨zc16, hzc16⟩ : ∃ b : Bool, ((x.kind : Int) == 12) = b := ⟨_, rfl⟩
                      refine wa_do (some 98) (.bool zc16) (by kernel_rfl) (by kernel_rfl) (rb_eqlI (k := x.kind) (l := 12) rfl (by kernel_rfl) (by kernel_rfl) hzc16) ?_
                      refine wa_q (some 97) (.bool zc16) (by kernel_rfl) ?_
                      refine wa_nil ?_
                      refine la_code ?_
                      cases zc16 with
                      | true =>
                        have hk97 : (((x.kind : Int) == 12)) = true := by rw [hzc16]
                        simp only [sB] at hk97
                        refine ca_true (by kernel_rfl) (by kernel_rfl) ?_
                        refine ca_region ?_
                        refine wa_q (some 99) (.pointer (some ⟨xb, 1, none⟩)) (by kernel_rfl) ?_
                        refine wa_do (some 100) (.int .i64 x.a) (by kernel_rfl) (by kernel_rfl) (rl_int rfl (by kernel_rfl) ((HX.keep HBX).cell (i := 1) rfl)) ?_
                        refine wa_q (some 101) (.pointer (some ⟨Q, 1, none⟩)) (by kernel_rfl) ?_
                        refine wa_do (some 102) (.slice Af c.first.length cf) (by kernel_rfl) (by kernel_rfl) (rl_is rfl (by kernel_rfl) ((HC1.keep HBK).cell (i := 1) rfl)) ?_
                        refine wa_q (some 103) (.int .i64 c.first.length) (by kernel_rfl) ?_
                        refine wa_do (some 104) (.int .i64 ((c.first.length : Int) - 1)) (by kernel_rfl) (by kernel_rfl) (rb_subI (k := c.first.length) (l := 1) rfl (by kernel_rfl) (by kernel_rfl) (by omega) (by omega) rfl) ?_
                        obtain ⟨zw7, hzw7⟩ : ∃ b : Bool, decide ((0 : Int) ≤ x.a ∧ x.a ≤ ((c.first.length : Int) - 1)) = b := ⟨_, rfl⟩
                        refine wa_sy (some 105) (.bool zw7) (by kernel_rfl) (by kernel_rfl) 48 #[.int .i64 x.a, .int .i64 0, .int .i64 ((c.first.length : Int) - 1)] (by kernel_rfl) (keepBt hzw7) ?_
                        intro WD hb
                        replace HBC := HBC.tr hb
                        replace HBK := HBK.tr hb
                        replace HBX := HBX.tr hb
                        clear hb
                        refine wa_q (some 106) (.bool zw7) (by kernel_rfl) ?_
                        refine wa_if (some 107) zw7 (.pointer (some ⟨xb, 2, none⟩)) (by kernel_rfl) (by kernel_rfl) (by cases zw7 <;> kernel_rfl) (fun hG => by subst hG; kernel_rfl) ?_
                        refine wa_if (some 108) zw7 (.int .i64 x.b) (by kernel_rfl) (by kernel_rfl) (by cases zw7 <;> kernel_rfl) (fun hG => by subst hG; exact rl_int rfl (by kernel_rfl) ((HX.keep HBX).cell (i := 2) rfl)) ?_
                        obtain ⟨zw8, hzw8⟩ : ∃ b : Bool, decide ((0 : Int) ≤ x.b ∧ x.b ≤ 3) = b := ⟨_, rfl⟩
                        refine wa_callif (some 109) zw7 (.bool zw8) (by kernel_rfl) (by kernel_rfl) (by cases zw7 <;> kernel_rfl) 48 #[.int .i64 x.b, .int .i64 0, .int .i64 3] (fun hG => by subst hG; kernel_rfl) (keepBt hzw8) ?_
                        intro WD hb
                        replace HBC := HBC.tr hb
                        replace HBK := HBK.tr hb
                        replace HBX := HBX.tr hb
                        clear hb
                        obtain ⟨zr17, hzr17⟩ : ∃ b : Bool, (zw7 && zw8) = b := ⟨_, rfl⟩
                        refine wa_do (some 110) (.bool zr17) (by kernel_rfl) (by kernel_rfl) (by subst hzr17; cases zw7 <;> (kernel_rfl)) ?_
                        refine wa_q (some 8) (.bool zr17) (by kernel_rfl) ?_
                        refine wa_nil ?_
                        refine la_block_normal ?_
                        have hA : insA c x = zr17 := by
                          unfold insA
                          rw [if_neg (by omega), if_neg (by omega), if_neg (by omega), if_pos (by omega)]
                          have h1 : ((decide ((0 : Int) ≤ x.a ∧ x.a ≤ ((c.first.length : Int) - 1))) && (decide ((0 : Int) ≤ x.b ∧ x.b ≤ 3))) = zr17 := by rw [hzw7, hzw8, hzr17]
                          exact h1
                        refine la_meet () [1, 3, 6, 7, 8] (by rw [hA]; kernel_rfl) HBX
                      | false =>
                        have hk97 : (((x.kind : Int) == 12)) = false := by rw [hzc16]
                        simp only [sB] at hk97
                        refine ca_false (by kernel_rfl) (by kernel_rfl) ?_
                        refine ca_seq ?_
                        refine ca_seq ?_
                        refine ca_region ?_
                        obtain ⟨zc18, hzc18⟩ : ∃ b : Bool, ((x.kind : Int) == 1) = b := ⟨_, rfl⟩
                        refine wa_do (some 112) (.bool zc18) (by kernel_rfl) (by kernel_rfl) (rb_eqlI (k := x.kind) (l := 1) rfl (by kernel_rfl) (by kernel_rfl) hzc18) ?_
                        refine wa_q (some 111) (.bool zc18) (by kernel_rfl) ?_
                        refine wa_nil ?_
                        refine la_code ?_
                        cases zc18 with
                        | true =>
                          have hk111 : (((x.kind : Int) == 1)) = true := by rw [hzc18]
                          simp only [sB] at hk111
                          refine ca_true (by kernel_rfl) (by kernel_rfl) ?_
                          refine ca_skip ?_
                          refine la_code ?_
                          refine ca_true (by kernel_rfl) (by kernel_rfl) ?_
                          refine ca_region ?_
                          refine wa_q (some 118) (.pointer (some ⟨xb, 1, none⟩)) (by kernel_rfl) ?_
                          refine wa_do (some 119) (.int .i64 x.a) (by kernel_rfl) (by kernel_rfl) (rl_int rfl (by kernel_rfl) ((HX.keep HBX).cell (i := 1) rfl)) ?_
                          obtain ⟨zc19, hzc19⟩ : ∃ b : Bool, decide ((0 : Int) ≤ x.a) = b := ⟨_, rfl⟩
                          refine wa_do (some 120) (.bool zc19) (by kernel_rfl) (by kernel_rfl) (rb_geqI (k := x.a) (l := 0) rfl (by kernel_rfl) (by kernel_rfl) hzc19) ?_
                          refine wa_q (some 8) (.bool zc19) (by kernel_rfl) ?_
                          refine wa_nil ?_
                          refine la_block_normal ?_
                          have hA : insA c x = zc19 := by
                            unfold insA
                            rw [if_neg (by omega), if_neg (by omega), if_neg (by omega), if_neg (by omega), if_neg (by omega)]
                            have h1 : (decide ((0 : Int) ≤ x.a)) = zc19 := by rw [hzc19]
                            exact h1
                          refine la_meet () [1, 3, 6, 7, 8] (by rw [hA]; kernel_rfl) HBX
                        | false =>
                          have hk111 : (((x.kind : Int) == 1)) = false := by rw [hzc18]
                          simp only [sB] at hk111
                          refine ca_false (by kernel_rfl) (by kernel_rfl) ?_
                          refine ca_seq ?_
                          refine ca_region ?_
                          obtain ⟨zc20, hzc20⟩ : ∃ b : Bool, ((x.kind : Int) == 3) = b := ⟨_, rfl⟩
                          refine wa_do (some 113) (.bool zc20) (by kernel_rfl) (by kernel_rfl) (rb_eqlI (k := x.kind) (l := 3) rfl (by kernel_rfl) (by kernel_rfl) hzc20) ?_
                          refine wa_q (some 111) (.bool zc20) (by kernel_rfl) ?_
                          refine wa_nil ?_
                          refine la_code ?_
                          cases zc20 with
                          | true =>
                            have hk111 : (((x.kind : Int) == 3)) = true := by rw [hzc20]
                            simp only [sB] at hk111
                            refine ca_true (by kernel_rfl) (by kernel_rfl) ?_
                            refine ca_skip ?_
                            refine la_code ?_
                            refine ca_true (by kernel_rfl) (by kernel_rfl) ?_
                            refine ca_region ?_
                            refine wa_q (some 118) (.pointer (some ⟨xb, 1, none⟩)) (by kernel_rfl) ?_
                            refine wa_do (some 119) (.int .i64 x.a) (by kernel_rfl) (by kernel_rfl) (rl_int rfl (by kernel_rfl) ((HX.keep HBX).cell (i := 1) rfl)) ?_
                            obtain ⟨zc21, hzc21⟩ : ∃ b : Bool, decide ((0 : Int) ≤ x.a) = b := ⟨_, rfl⟩
                            refine wa_do (some 120) (.bool zc21) (by kernel_rfl) (by kernel_rfl) (rb_geqI (k := x.a) (l := 0) rfl (by kernel_rfl) (by kernel_rfl) hzc21) ?_
                            refine wa_q (some 8) (.bool zc21) (by kernel_rfl) ?_
                            refine wa_nil ?_
                            refine la_block_normal ?_
                            have hA : insA c x = zc21 := by
                              unfold insA
                              rw [if_neg (by omega), if_neg (by omega), if_neg (by omega), if_neg (by omega), if_neg (by omega)]
                              have h1 : (decide ((0 : Int) ≤ x.a)) = zc21 := by rw [hzc21]
                              exact h1
                            refine la_meet () [1, 3, 6, 7, 8] (by rw [hA]; kernel_rfl) HBX
                          | false =>
                            have hk111 : (((x.kind : Int) == 3)) = false := by rw [hzc20]
                            simp only [sB] at hk111
                            refine ca_false (by kernel_rfl) (by kernel_rfl) ?_
                            refine ca_seq ?_
                            refine ca_region ?_
                            obtain ⟨zc22, hzc22⟩ : ∃ b : Bool, ((x.kind : Int) == 4) = b := ⟨_, rfl⟩
                            refine wa_do (some 114) (.bool zc22) (by kernel_rfl) (by kernel_rfl) (rb_eqlI (k := x.kind) (l := 4) rfl (by kernel_rfl) (by kernel_rfl) hzc22) ?_
                            refine wa_q (some 111) (.bool zc22) (by kernel_rfl) ?_
                            refine wa_nil ?_
                            refine la_code ?_
                            cases zc22 with
                            | true =>
                              have hk111 : (((x.kind : Int) == 4)) = true := by rw [hzc22]
                              simp only [sB] at hk111
                              refine ca_true (by kernel_rfl) (by kernel_rfl) ?_
                              refine ca_skip ?_
                              refine la_code ?_
                              refine ca_true (by kernel_rfl) (by kernel_rfl) ?_
                              refine ca_region ?_
                              refine wa_q (some 118) (.pointer (some ⟨xb, 1, none⟩)) (by kernel_rfl) ?_
                              refine wa_do (some 119) (.int .i64 x.a) (by kernel_rfl) (by kernel_rfl) (rl_int rfl (by kernel_rfl) ((HX.keep HBX).cell (i := 1) rfl)) ?_
                              obtain ⟨zc23, hzc23⟩ : ∃ b : Bool, decide ((0 : Int) ≤ x.a) = b := ⟨_, rfl⟩
                              refine wa_do (some 120) (.bool zc23) (by kernel_rfl) (by kernel_rfl) (rb_geqI (k := x.a) (l := 0) rfl (by kernel_rfl) (by kernel_rfl) hzc23) ?_
                              refine wa_q (some 8) (.bool zc23) (by kernel_rfl) ?_
                              refine wa_nil ?_
                              refine la_block_normal ?_
                              have hA : insA c x = zc23 := by
                                unfold insA
                                rw [if_neg (by omega), if_neg (by omega), if_neg (by omega), if_neg (by omega), if_neg (by omega)]
                                have h1 : (decide ((0 : Int) ≤ x.a)) = zc23 := by rw [hzc23]
                                exact h1
                              refine la_meet () [1, 3, 6, 7, 8] (by rw [hA]; kernel_rfl) HBX
                            | false =>
                              have hk111 : (((x.kind : Int) == 4)) = false := by rw [hzc22]
                              simp only [sB] at hk111
                              refine ca_false (by kernel_rfl) (by kernel_rfl) ?_
                              refine ca_seq ?_
                              refine ca_region ?_
                              obtain ⟨zc24, hzc24⟩ : ∃ b : Bool, ((x.kind : Int) == 6) = b := ⟨_, rfl⟩
                              refine wa_do (some 115) (.bool zc24) (by kernel_rfl) (by kernel_rfl) (rb_eqlI (k := x.kind) (l := 6) rfl (by kernel_rfl) (by kernel_rfl) hzc24) ?_
                              refine wa_q (some 111) (.bool zc24) (by kernel_rfl) ?_
                              refine wa_nil ?_
                              refine la_code ?_
                              cases zc24 with
                              | true =>
                                have hk111 : (((x.kind : Int) == 6)) = true := by rw [hzc24]
                                simp only [sB] at hk111
                                refine ca_true (by kernel_rfl) (by kernel_rfl) ?_
                                refine ca_skip ?_
                                refine la_code ?_
                                refine ca_true (by kernel_rfl) (by kernel_rfl) ?_
                                refine ca_region ?_
                                refine wa_q (some 118) (.pointer (some ⟨xb, 1, none⟩)) (by kernel_rfl) ?_
                                refine wa_do (some 119) (.int .i64 x.a) (by kernel_rfl) (by kernel_rfl) (rl_int rfl (by kernel_rfl) ((HX.keep HBX).cell (i := 1) rfl)) ?_
                                obtain ⟨zc25, hzc25⟩ : ∃ b : Bool, decide ((0 : Int) ≤ x.a) = b := ⟨_, rfl⟩
                                refine wa_do (some 120) (.bool zc25) (by kernel_rfl) (by kernel_rfl) (rb_geqI (k := x.a) (l := 0) rfl (by kernel_rfl) (by kernel_rfl) hzc25) ?_
                                refine wa_q (some 8) (.bool zc25) (by kernel_rfl) ?_
                                refine wa_nil ?_
                                refine la_block_normal ?_
                                have hA : insA c x = zc25 := by
                                  unfold insA
                                  rw [if_neg (by omega), if_neg (by omega), if_neg (by omega), if_neg (by omega), if_neg (by omega)]
                                  have h1 : (decide ((0 : Int) ≤ x.a)) = zc25 := by rw [hzc25]
                                  exact h1
                                refine la_meet () [1, 3, 6, 7, 8] (by rw [hA]; kernel_rfl) HBX
                              | false =>
                                have hk111 : (((x.kind : Int) == 6)) = false := by rw [hzc24]
                                simp only [sB] at hk111
                                refine ca_false (by kernel_rfl) (by kernel_rfl) ?_
                                refine ca_seq ?_
                                refine ca_region ?_
                                obtain ⟨zc26, hzc26⟩ : ∃ b : Bool, ((x.kind : Int) == 7) = b := ⟨_, rfl⟩
                                refine wa_do (some 116) (.bool zc26) (by kernel_rfl) (by kernel_rfl) (rb_eqlI (k := x.kind) (l := 7) rfl (by kernel_rfl) (by kernel_rfl) hzc26) ?_
                                refine wa_q (some 111) (.bool zc26) (by kernel_rfl) ?_
                                refine wa_nil ?_
                                refine la_code ?_
                                cases zc26 with
                                | true =>
                                  have hk111 : (((x.kind : Int) == 7)) = true := by rw [hzc26]
                                  simp only [sB] at hk111
                                  refine ca_true (by kernel_rfl) (by kernel_rfl) ?_
                                  refine ca_skip ?_
                                  refine la_code ?_
                                  refine ca_true (by kernel_rfl) (by kernel_rfl) ?_
                                  refine ca_region ?_
                                  refine wa_q (some 118) (.pointer (some ⟨xb, 1, none⟩)) (by kernel_rfl) ?_
                                  refine wa_do (some 119) (.int .i64 x.a) (by kernel_rfl) (by kernel_rfl) (rl_int rfl (by kernel_rfl) ((HX.keep HBX).cell (i := 1) rfl)) ?_
                                  obtain ⟨zc27, hzc27⟩ : ∃ b : Bool, decide ((0 : Int) ≤ x.a) = b := ⟨_, rfl⟩
                                  refine wa_do (some 120) (.bool zc27) (by kernel_rfl) (by kernel_rfl) (rb_geqI (k := x.a) (l := 0) rfl (by kernel_rfl) (by kernel_rfl) hzc27) ?_
                                  refine wa_q (some 8) (.bool zc27) (by kernel_rfl) ?_
                                  refine wa_nil ?_
                                  refine la_block_normal ?_
                                  have hA : insA c x = zc27 := by
                                    unfold insA
                                    rw [if_neg (by omega), if_neg (by omega), if_neg (by omega), if_neg (by omega), if_neg (by omega)]
                                    have h1 : (decide ((0 : Int) ≤ x.a)) = zc27 := by rw [hzc27]
                                    exact h1
                                  refine la_meet () [1, 3, 6, 7, 8] (by rw [hA]; kernel_rfl) HBX
                                | false =>
                                  have hk111 : (((x.kind : Int) == 7)) = false := by rw [hzc26]
                                  simp only [sB] at hk111
                                  refine ca_false (by kernel_rfl) (by kernel_rfl) ?_
                                  refine ca_region ?_
                                  obtain ⟨zc28, hzc28⟩ : ∃ b : Bool, ((x.kind : Int) == 8) = b := ⟨_, rfl⟩
                                  refine wa_do (some 117) (.bool zc28) (by kernel_rfl) (by kernel_rfl) (rb_eqlI (k := x.kind) (l := 8) rfl (by kernel_rfl) (by kernel_rfl) hzc28) ?_
                                  refine wa_q (some 111) (.bool zc28) (by kernel_rfl) ?_
                                  refine wa_nil ?_
                                  refine la_code ?_
                                  cases zc28 with
                                  | true =>
                                    have hk111 : (((x.kind : Int) == 8)) = true := by rw [hzc28]
                                    simp only [sB] at hk111
                                    refine ca_true (by kernel_rfl) (by kernel_rfl) ?_
                                    refine ca_region ?_
                                    refine wa_q (some 118) (.pointer (some ⟨xb, 1, none⟩)) (by kernel_rfl) ?_
                                    refine wa_do (some 119) (.int .i64 x.a) (by kernel_rfl) (by kernel_rfl) (rl_int rfl (by kernel_rfl) ((HX.keep HBX).cell (i := 1) rfl)) ?_
                                    obtain ⟨zc29, hzc29⟩ : ∃ b : Bool, decide ((0 : Int) ≤ x.a) = b := ⟨_, rfl⟩
                                    refine wa_do (some 120) (.bool zc29) (by kernel_rfl) (by kernel_rfl) (rb_geqI (k := x.a) (l := 0) rfl (by kernel_rfl) (by kernel_rfl) hzc29) ?_
                                    refine wa_q (some 8) (.bool zc29) (by kernel_rfl) ?_
                                    refine wa_nil ?_
                                    refine la_block_normal ?_
                                    have hA : insA c x = zc29 := by
                                      unfold insA
                                      rw [if_neg (by omega), if_neg (by omega), if_neg (by omega), if_neg (by omega), if_neg (by omega)]
                                      have h1 : (decide ((0 : Int) ≤ x.a)) = zc29 := by rw [hzc29]
                                      exact h1
                                    refine la_meet () [1, 3, 6, 7, 8] (by rw [hA]; kernel_rfl) HBX
                                  | false =>
                                    have hk111 : (((x.kind : Int) == 8)) = false := by rw [hzc28]
                                    simp only [sB] at hk111
                                    refine ca_false (by kernel_rfl) (by kernel_rfl) ?_
                                    refine ca_skip ?_
                                    refine la_block_normal ?_
                                    have hA : insA c x = true := by
                                      unfold insA
                                      rw [if_neg (by omega), if_neg (by omega), if_neg (by omega), if_neg (by omega), if_pos (by omega)]
                                    refine la_meet () [1, 3, 6, 7, 8] (by rw [hA]; kernel_rfl) HBX
            clear HBX
            rintro - W6 HBX
            replace HBC := HBC5.tr HBX
            replace HBK := HBK5.tr HBX
            obtain ⟨ia, hia⟩ : ∃ b, insA c x = b := ⟨_, rfl⟩
            rw [hia]
            refine ca_seq ?_
            refine ca_seq ?_
            refine ca_region ?_
            refine wa_q (some 121) (.bool ia) (by kernel_rfl) ?_
            obtain ⟨zr30, hzr30⟩ : ∃ b : Bool, (!ia) = b := ⟨_, rfl⟩
            refine wa_do (some 122) (.bool zr30) (by kernel_rfl) (by kernel_rfl) (by subst hzr30; kernel_rfl) ?_
            refine wa_nil ?_
            refine la_code ?_
            cases zr30 with
            | true =>
              have hi2 : ia = false := by cases ia <;> simp_all
              have hEx : insE c x = 3 := by unfold insE; rw [if_neg hkk, if_pos (by rw [hia, hi2])]
              have hfin : codeE c = 3 := by rw [hins, ← hTj, hTd, if_pos (by rw [hEx]; decide), hEx]
              refine ca_true (by kernel_rfl) (by kernel_rfl) ?_
              refine ca_seq ?_
              refine ca_region ?_
              refine wa_q (some 2) (.int .i64 3) (by kernel_rfl) ?_
              refine wa_nil ?_
              refine la_code ?_
              refine ca_ret ?_
              refine la_then_ret ?_
              refine la_block_ret ?_
              refine la_then_ret ?_
              refine la_then_ret ?_
              refine la_block_ret ?_
              refine la_then_ret ?_
              refine la_ret1 2 (.int .i64 3) rfl (by kernel_rfl) ?_
              exact ⟨by rw [hfin], HBC⟩
            | false =>
              have hi2 : ia = true := by cases ia <;> simp_all
              refine ca_false (by kernel_rfl) (by kernel_rfl) ?_
              refine ca_skip ?_
              refine la_code ?_
              refine ca_seq ?_
              refine ca_region ?_
              refine wa_q (some 123) (.pointer (some ⟨xb, 0, none⟩)) (by kernel_rfl) ?_
              refine wa_do (some 124) (.int .i64 x.kind) (by kernel_rfl) (by kernel_rfl) (rl_int rfl (by kernel_rfl) ((HX.keep HBX).cell (i := 0) rfl)) ?_
              obtain ⟨zc31, hzc31⟩ : ∃ b : Bool, ((x.kind : Int) == 9) = b := ⟨_, rfl⟩
              refine wa_do (some 125) (.bool zc31) (by kernel_rfl) (by kernel_rfl) (rb_eqlI (k := x.kind) (l := 9) rfl (by kernel_rfl) (by kernel_rfl) hzc31) ?_
              refine wa_q (some 126) (.bool zc31) (by kernel_rfl) ?_
              obtain ⟨zg32, hzg32⟩ : ∃ b : Bool, b = (!zc31) := ⟨_, rfl⟩
              refine wa_if (some 127) zg32 (.pointer (some ⟨xb, 0, none⟩)) (by kernel_rfl) (by kernel_rfl) (by subst hzg32; cases zc31 <;> kernel_rfl) (fun hG => by subst hzg32; obtain rfl : zc31 = false := (by revert hG; cases zc31 <;> simp); kernel_rfl) ?_
              refine wa_if (some 128) zg32 (.int .i64 x.kind) (by kernel_rfl) (by kernel_rfl) (by subst hzg32; cases zc31 <;> kernel_rfl) (fun hG => by subst hzg32; obtain rfl : zc31 = false := (by revert hG; cases zc31 <;> simp); exact rl_int rfl (by kernel_rfl) ((HX.keep HBX).cell (i := 0) rfl)) ?_
              obtain ⟨zc33, hzc33⟩ : ∃ b : Bool, ((x.kind : Int) == 13) = b := ⟨_, rfl⟩
              refine wa_if (some 129) zg32 (.bool zc33) (by kernel_rfl) (by kernel_rfl) (by subst hzg32; cases zc31 <;> kernel_rfl) (fun hG => by subst hzg32; obtain rfl : zc31 = false := (by revert hG; cases zc31 <;> simp); exact rb_eqlI (k := x.kind) (l := 13) rfl (by kernel_rfl) (by kernel_rfl) hzc33) ?_
              obtain ⟨zr34, hzr34⟩ : ∃ b : Bool, (zc31 || zc33) = b := ⟨_, rfl⟩
              refine wa_do (some 130) (.bool zr34) (by kernel_rfl) (by kernel_rfl) (by subst hzr34; cases zc31 <;> (subst hzg32; kernel_rfl)) ?_
              refine wa_q (some 131) (.bool zr34) (by kernel_rfl) ?_
              obtain ⟨zg35, hzg35⟩ : ∃ b : Bool, b = (!zr34) := ⟨_, rfl⟩
              refine wa_if (some 132) zg35 (.pointer (some ⟨xb, 0, none⟩)) (by kernel_rfl) (by kernel_rfl) (by subst hzg35; cases zr34 <;> kernel_rfl) (fun hG => by subst hzg35; obtain rfl : zr34 = false := (by revert hG; cases zr34 <;> simp); kernel_rfl) ?_
              refine wa_if (some 133) zg35 (.int .i64 x.kind) (by kernel_rfl) (by kernel_rfl) (by subst hzg35; cases zr34 <;> kernel_rfl) (fun hG => by subst hzg35; obtain rfl : zr34 = false := (by revert hG; cases zr34 <;> simp); exact rl_int rfl (by kernel_rfl) ((HX.keep HBX).cell (i := 0) rfl)) ?_
              obtain ⟨zc36, hzc36⟩ : ∃ b : Bool, ((x.kind : Int) == 14) = b := ⟨_, rfl⟩
              refine wa_if (some 134) zg35 (.bool zc36) (by kernel_rfl) (by kernel_rfl) (by subst hzg35; cases zr34 <;> kernel_rfl) (fun hG => by subst hzg35; obtain rfl : zr34 = false := (by revert hG; cases zr34 <;> simp); exact rb_eqlI (k := x.kind) (l := 14) rfl (by kernel_rfl) (by kernel_rfl) hzc36) ?_
              obtain ⟨zr37, hzr37⟩ : ∃ b : Bool, (zr34 || zc36) = b := ⟨_, rfl⟩
              refine wa_do (some 135) (.bool zr37) (by kernel_rfl) (by kernel_rfl) (by subst hzr37; cases zr34 <;> (subst hzg35; kernel_rfl)) ?_
              refine wa_q (some 136) (.bool zr37) (by kernel_rfl) ?_
              refine wa_if (some 137) zr37 (.pointer (some ⟨xb, 1, none⟩)) (by kernel_rfl) (by kernel_rfl) (by cases zr37 <;> kernel_rfl) (fun hG => by subst hG; kernel_rfl) ?_
              refine wa_if (some 138) zr37 (.int .i64 x.a) (by kernel_rfl) (by kernel_rfl) (by cases zr37 <;> kernel_rfl) (fun hG => by subst hG; exact rl_int rfl (by kernel_rfl) ((HX.keep HBX).cell (i := 1) rfl)) ?_
              obtain ⟨zc38, hzc38⟩ : ∃ b : Bool, ((x.a : Int) != 0) = b := ⟨_, rfl⟩
              refine wa_if (some 139) zr37 (.bool zc38) (by kernel_rfl) (by kernel_rfl) (by cases zr37 <;> kernel_rfl) (fun hG => by subst hG; exact rb_neqI (k := x.a) (l := 0) rfl (by kernel_rfl) (by kernel_rfl) hzc38) ?_
              obtain ⟨zr39, hzr39⟩ : ∃ b : Bool, (zr37 && zc38) = b := ⟨_, rfl⟩
              refine wa_do (some 140) (.bool zr39) (by kernel_rfl) (by kernel_rfl) (by subst hzr39; cases zr37 <;> (kernel_rfl)) ?_
              refine wa_q (some 141) (.bool zr39) (by kernel_rfl) ?_
              obtain ⟨zg40, hzg40⟩ : ∃ b : Bool, b = (!zr39) := ⟨_, rfl⟩
              refine wa_if (some 142) zg40 (.pointer (some ⟨xb, 0, none⟩)) (by kernel_rfl) (by kernel_rfl) (by subst hzg40; cases zr39 <;> kernel_rfl) (fun hG => by subst hzg40; obtain rfl : zr39 = false := (by revert hG; cases zr39 <;> simp); kernel_rfl) ?_
              refine wa_if (some 143) zg40 (.int .i64 x.kind) (by kernel_rfl) (by kernel_rfl) (by subst hzg40; cases zr39 <;> kernel_rfl) (fun hG => by subst hzg40; obtain rfl : zr39 = false := (by revert hG; cases zr39 <;> simp); exact rl_int rfl (by kernel_rfl) ((HX.keep HBX).cell (i := 0) rfl)) ?_
              obtain ⟨zc41, hzc41⟩ : ∃ b : Bool, ((x.kind : Int) != 12) = b := ⟨_, rfl⟩
              refine wa_if (some 144) zg40 (.bool zc41) (by kernel_rfl) (by kernel_rfl) (by subst hzg40; cases zr39 <;> kernel_rfl) (fun hG => by subst hzg40; obtain rfl : zr39 = false := (by revert hG; cases zr39 <;> simp); exact rb_neqI (k := x.kind) (l := 12) rfl (by kernel_rfl) (by kernel_rfl) hzc41) ?_
              refine wa_if (some 145) zg40 (.bool zc41) (by kernel_rfl) (by kernel_rfl) (by subst hzg40; cases zr39 <;> kernel_rfl) (fun hG => by subst hzg40; obtain rfl : zr39 = false := (by revert hG; cases zr39 <;> simp); kernel_rfl) ?_
              obtain ⟨zg42, hzg42⟩ : ∃ b : Bool, b = (zg40 && zc41) := ⟨_, rfl⟩
              refine wa_if (some 146) zg42 (.pointer (some ⟨xb, 2, none⟩)) (by kernel_rfl) (by kernel_rfl) (by subst hzg42; cases zg40 <;> cases zc41 <;> kernel_rfl) (fun hG => by subst hzg42; obtain ⟨hq1, hq2⟩ : zg40 = true ∧ zc41 = true := (by revert hG; cases zg40 <;> cases zc41 <;> simp); subst hq2; subst hzg40; obtain rfl : zr39 = false := (by revert hq1; cases zr39 <;> simp); kernel_rfl) ?_
              refine wa_if (some 147) zg42 (.int .i64 x.b) (by kernel_rfl) (by kernel_rfl) (by subst hzg42; cases zg40 <;> cases zc41 <;> kernel_rfl) (fun hG => by subst hzg42; obtain ⟨hq1, hq2⟩ : zg40 = true ∧ zc41 = true := (by revert hG; cases zg40 <;> cases zc41 <;> simp); subst hq2; subst hzg40; obtain rfl : zr39 = false := (by revert hq1; cases zr39 <;> simp); exact rl_int rfl (by kernel_rfl) ((HX.keep HBX).cell (i := 2) rfl)) ?_
              obtain ⟨zc43, hzc43⟩ : ∃ b : Bool, ((x.b : Int) != 0) = b := ⟨_, rfl⟩
              refine wa_if (some 148) zg42 (.bool zc43) (by kernel_rfl) (by kernel_rfl) (by subst hzg42; cases zg40 <;> cases zc41 <;> kernel_rfl) (fun hG => by subst hzg42; obtain ⟨hq1, hq2⟩ : zg40 = true ∧ zc41 = true := (by revert hG; cases zg40 <;> cases zc41 <;> simp); subst hq2; subst hzg40; obtain rfl : zr39 = false := (by revert hq1; cases zr39 <;> simp); exact rb_neqI (k := x.b) (l := 0) rfl (by kernel_rfl) (by kernel_rfl) hzc43) ?_
              obtain ⟨zr44, hzr44⟩ : ∃ b : Bool, (zc41 && zc43) = b := ⟨_, rfl⟩
              refine wa_if (some 149) zg40 (.bool zr44) (by kernel_rfl) (by kernel_rfl) (by subst hzg40; cases zr39 <;> kernel_rfl) (fun hG => by subst hzr44; cases zc41 <;> (subst hzg40; obtain rfl : zr39 = false := (by revert hG; cases zr39 <;> simp); subst hzg42; kernel_rfl)) ?_
              obtain ⟨zr45, hzr45⟩ : ∃ b : Bool, (zr39 || zr44) = b := ⟨_, rfl⟩
              refine wa_do (some 150) (.bool zr45) (by kernel_rfl) (by kernel_rfl) (by subst hzr45; cases zr39 <;> (subst hzg40; kernel_rfl)) ?_
              refine wa_nil ?_
              refine la_code ?_
              cases zr45 with
              | true =>
                have hq9 : (((((((x.kind : Int) == 9)) || (((x.kind : Int) == 13))) || (((x.kind : Int) == 14))) && (((x.a : Int) != 0))) || ((((x.kind : Int) != 12)) && (((x.b : Int) != 0)))) = true := by rw [hzc31, hzc33, hzr34, hzc36, hzr37, hzc38, hzr39, hzc41, hzc43, hzr44, hzr45]
                simp only [sB] at hq9
                have hEx : insE c x = 1 := by unfold insE; rw [if_neg hkk, if_neg (by rw [hia, hi2]; decide), if_pos (by omega)]
                have hfin : codeE c = 1 := by rw [hins, ← hTj, hTd, if_pos (by rw [hEx]; decide), hEx]
                refine ca_true (by kernel_rfl) (by kernel_rfl) ?_
                refine ca_seq ?_
                refine ca_region ?_
                refine wa_q (some 2) (.int .i64 1) (by kernel_rfl) ?_
                refine wa_nil ?_
                refine la_code ?_
                refine ca_ret ?_
                refine la_block_ret ?_
                refine la_then_ret ?_
                refine la_then_ret ?_
                refine la_block_ret ?_
                refine la_then_ret ?_
                refine la_ret1 2 (.int .i64 1) rfl (by kernel_rfl) ?_
                exact ⟨by rw [hfin], HBC⟩
              | false =>
                have hq9 : (((((((x.kind : Int) == 9)) || (((x.kind : Int) == 13))) || (((x.kind : Int) == 14))) && (((x.a : Int) != 0))) || ((((x.kind : Int) != 12)) && (((x.b : Int) != 0)))) = false := by rw [hzc31, hzc33, hzr34, hzc36, hzr37, hzc38, hzr39, hzc41, hzc43, hzr44, hzr45]
                simp only [sB] at hq9
                have hE0 : insE c x = 0 := by unfold insE; rw [if_neg hkk, if_neg (by rw [hia, hi2]; decide), if_neg (by omega)]
                refine ca_false (by kernel_rfl) (by kernel_rfl) ?_
                refine ca_skip ?_
                refine la_block_normal ?_
                refine la_code ?_
                refine ca_region ?_
                refine wa_q (some 66) (.int .i64 (j : Int)) (by kernel_rfl) ?_
                refine wa_do (some 67) (.int .i64 ((j : Int) + 1)) (by kernel_rfl) (by kernel_rfl) (rb_add64 (k := (j : Int)) (l := 1) rfl (by kernel_rfl) (by kernel_rfl) (by omega) (by omega) rfl) ?_
                refine wa_q (some 6) (.int .i64 ((j : Int) + 1)) (by kernel_rfl) ?_
                refine wa_nil ?_
                refine la_meet (j + 1) [1, 3, 6] (by kernel_rfl) ⟨⟨by omega, by rw [← hTj, hTd, if_neg (by rw [hE0]; omega)], HBK⟩, by omega⟩
        | false =>
          have hq7 : (decide (((j : Int) : Int) < c.ins.length)) = false := by rw [hzc10]
          simp only [sB] at hq7
          have hT2 : T = 0 := by rw [← hTj, List.drop_eq_nil_of_le (by omega)]; rfl
          have hfin : codeE c = 0 := by rw [hins, hT2]
          refine ca_false (by kernel_rfl) (by kernel_rfl) ?_
          refine ca_exit ?_
          refine la_then_exit ?_
          refine la_then_exit ?_
          refine la_block_hit ?_
          refine la_code ?_
          refine ca_seq ?_
          refine ca_region ?_
          refine wa_q (some 2) (.int .i64 0) (by kernel_rfl) ?_
          refine wa_nil ?_
          refine la_code ?_
          refine ca_ret ?_
          refine la_ret1 2 (.int .i64 0) rfl (by kernel_rfl) ?_
          exact ⟨by rw [hfin], HBC⟩
end Go.Proofs.Ytgkpplbomciehaa
