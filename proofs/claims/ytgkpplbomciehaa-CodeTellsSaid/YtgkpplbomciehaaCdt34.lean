/- The program's verdict on code: walked. Each lemma states its own conditions. -/
import Derived.Test.YtgkpplbomciehaaCdt33
import Derived.Test.YtgkpplbomciehaaCdt21
namespace Go.Proofs.Ytgkpplbomciehaa
open Go.RowKit
set_option maxRecDepth 20000 in
theorem keepWi {n a e : Int} {w : World} {c : Bool} (hc : decide (a ≤ n ∧ n ≤ e) = c) : Calls Try.prog 61 #[.int .i64 n, .int .i64 a, .int .i64 e] w fun r w' => r = .returned (.bool c) ∧ Bel w w' := by
  have HB := Bel.rfl_ w
  refine af_enter (c := _) (args := [.int .i64 n, .int .i64 a, .int .i64 e]) Try.func61 rfl Try.ntmps61 (by kernel_rfl) ?_
  refine ca_seq ?_
  refine ca_region ?_
  refine wa_q (some 6) (.bool false) (by kernel_rfl) ?_
  refine wa_nil ?_
  refine la_code ?_
  refine ca_seq ?_
  refine ca_region ?_
  refine wa_q (some 7) (.int .i64 n) (by kernel_rfl) ?_
  refine wa_q (some 8) (.int .i64 a) (by kernel_rfl) ?_
  obtain ⟨zc1, hzc1⟩ : ∃ b : Bool, decide ((a : Int) ≤ n) = b := ⟨_, rfl⟩
  refine wa_do (some 9) (.bool zc1) (by kernel_rfl) (by kernel_rfl) (rb_geqI (k := n) (l := a) rfl (by kernel_rfl) (by kernel_rfl) hzc1) ?_
  refine wa_q (some 10) (.bool zc1) (by kernel_rfl) ?_
  refine wa_if (some 11) zc1 (.int .i64 n) (by kernel_rfl) (by kernel_rfl) (by cases zc1 <;> kernel_rfl) (fun hG => by subst hG; kernel_rfl) ?_
  refine wa_if (some 12) zc1 (.int .i64 e) (by kernel_rfl) (by kernel_rfl) (by cases zc1 <;> kernel_rfl) (fun hG => by subst hG; kernel_rfl) ?_
  obtain ⟨zc2, hzc2⟩ : ∃ b : Bool, decide ((n : Int) ≤ e) = b := ⟨_, rfl⟩
  refine wa_if (some 13) zc1 (.bool zc2) (by kernel_rfl) (by kernel_rfl) (by cases zc1 <;> kernel_rfl) (fun hG => by subst hG; exact rb_leqI (k := n) (l := e) rfl (by kernel_rfl) (by kernel_rfl) hzc2) ?_
  obtain ⟨zr3, hzr3⟩ : ∃ b : Bool, (zc1 && zc2) = b := ⟨_, rfl⟩
  refine wa_do (some 14) (.bool zr3) (by kernel_rfl) (by kernel_rfl) (by subst hzr3; cases zc1 <;> (kernel_rfl)) ?_
  refine wa_q (some 6) (.bool zr3) (by kernel_rfl) ?_
  refine wa_nil ?_
  refine la_code ?_
  refine ca_ret ?_
  refine la_ret1 6 (.bool zr3) rfl (by kernel_rfl) ?_
  have h1 : ((decide ((a : Int) ≤ n)) && (decide ((n : Int) ≤ e))) = zr3 := by rw [hzc1, hzc2, hzr3]
  exact ⟨by rw [← h1, ← hc, Bool.decide_and], HB⟩
set_option maxRecDepth 20000 in
theorem codeA_any (c : Cd) (x : Ins) (v : Value) (w : World) (hcd : CodeR w v c) : Calls Try.prog 65 #[v, .agg #[.int .i64 x.kind, .int .i64 x.a, .int .i64 x.b]] w fun r w' => r = .returned (.bool (insA c x)) ∧ Bel w w' := by
  obtain ⟨vi, vf, vz, rfl, hs, hf, hz⟩ := hcd
  obtain ⟨Ai, ci, rfl, hli⟩ := sl_lit hs
  obtain ⟨Af, cf, rfl, hlf⟩ := sl_lit hf
  obtain ⟨Az, cz, rfl, hlz⟩ := sl_lit hz
  have HB1 : Bel w (w.alloc (.cells #[.slice Ai c.ins.length ci, .slice Af c.first.length cf, .slice Az c.sizes.length cz] CDT)) := (Bel.rfl_ w).al _
  have HC1 := Blk.new w CDT #[.slice Ai c.ins.length ci, .slice Af c.first.length cf, .slice Az c.sizes.length cz]
  refine af_enter (c := _) (args := [.agg #[.slice Ai c.ins.length ci, .slice Af c.first.length cf, .slice Az c.sizes.length cz], .agg #[.int .i64 x.kind, .int .i64 x.a, .int .i64 x.b]]) Try.func65 rfl Try.ntmps65 (by kernel_rfl) ?_
  refine ca_seq ?_
  refine ca_region ?_
  refine wa_w (some 2) (.pointer (some ⟨w.heap.size, 0, none⟩)) (w.alloc (.cells #[.slice Ai c.ins.length ci, .slice Af c.first.length cf, .slice Az c.sizes.length cz] CDT)) (by kernel_rfl) ?_
  generalize w.alloc (.cells #[.slice Ai c.ins.length ci, .slice Af c.first.length cf, .slice Az c.sizes.length cz] CDT) = W1 at *
  generalize w.heap.size = Q at *
  refine wa_w (some 3) (.pointer (some ⟨W1.heap.size, 0, none⟩)) (W1.alloc (.cells #[.int .i64 x.kind, .int .i64 x.a, .int .i64 x.b] INS)) (by kernel_rfl) ?_
  have HX := Blk.new W1 INS #[.int .i64 x.kind, .int .i64 x.a, .int .i64 x.b]
  have HC2 := HC1.keep ((Bel.rfl_ W1).al (.cells #[.int .i64 x.kind, .int .i64 x.a, .int .i64 x.b] INS))
  have HBC := HB1.al (.cells #[.int .i64 x.kind, .int .i64 x.a, .int .i64 x.b] INS)
  generalize W1.alloc (.cells #[.int .i64 x.kind, .int .i64 x.a, .int .i64 x.b] INS) = W2 at *
  generalize W1.heap.size = xb at *
  have HBK := Bel.rfl_ W2
  refine wa_q (some 4) (.bool false) (by kernel_rfl) ?_
  refine wa_nil ?_
  refine la_code ?_
  refine ca_seq ?_
  refine ca_seq ?_
  refine ca_region ?_
  refine wa_q (some 5) (.pointer (some ⟨xb, 0, none⟩)) (by kernel_rfl) ?_
  refine wa_do (some 6) (.int .i64 x.kind) (by kernel_rfl) (by kernel_rfl) (rl_int rfl (by kernel_rfl) ((HX.keep HBK).cell (i := 0) rfl)) ?_
  refine wa_nil ?_
  refine la_code ?_
  refine ca_block ?_
  refine ca_seq ?_
  refine ca_region ?_
  obtain ⟨zc1, hzc1⟩ : ∃ b : Bool, ((x.kind : Int) == 2) = b := ⟨_, rfl⟩
  refine wa_do (some 8) (.bool zc1) (by kernel_rfl) (by kernel_rfl) (rb_eqlI (k := x.kind) (l := 2) rfl (by kernel_rfl) (by kernel_rfl) hzc1) ?_
  refine wa_q (some 7) (.bool zc1) (by kernel_rfl) ?_
  refine wa_nil ?_
  refine la_code ?_
  cases zc1 with
  | true =>
    have hk7 : (((x.kind : Int) == 2)) = true := by rw [hzc1]
    simp only [sB] at hk7
    refine ca_true (by kernel_rfl) (by kernel_rfl) ?_
    refine ca_seq ?_
    refine ca_region ?_
    refine wa_q (some 9) (.pointer (some ⟨xb, 1, none⟩)) (by kernel_rfl) ?_
    refine wa_do (some 10) (.int .i64 x.a) (by kernel_rfl) (by kernel_rfl) (rl_int rfl (by kernel_rfl) ((HX.keep HBK).cell (i := 1) rfl)) ?_
    obtain ⟨zn0, hzn0⟩ : ∃ b : Bool, decide (Num x.a) = b := ⟨_, rfl⟩
    refine wa_sy (some 11) (.bool zn0) (by kernel_rfl) (by kernel_rfl) 69 #[.int .i64 x.a] (by kernel_rfl) (hzn0 ▸ (number_any x.a _).mono (fun r W h => ⟨h.1, h.2 ▸ Bel.rfl_ _⟩)) ?_
    intro WD hb
    replace HBC := HBC.tr hb
    replace HBK := HBK.tr hb
    clear hb
    refine wa_q (some 4) (.bool zn0) (by kernel_rfl) ?_
    refine wa_nil ?_
    refine la_code ?_
    refine ca_ret ?_
    refine la_block_ret ?_
    refine la_then_ret ?_
    have hA : insA c x = zn0 := by
      unfold insA
      rw [if_pos (by omega)]
      have h1 : (decide (Num x.a)) = zn0 := by rw [hzn0]
      exact h1
    refine la_ret1 4 (.bool zn0) rfl (by kernel_rfl) ?_
    exact ⟨by rw [hA], HBC⟩
  | false =>
    have hk7 : (((x.kind : Int) == 2)) = false := by rw [hzc1]
    simp only [sB] at hk7
    refine ca_false (by kernel_rfl) (by kernel_rfl) ?_
    refine ca_seq ?_
    refine ca_seq ?_
    refine ca_region ?_
    obtain ⟨zc2, hzc2⟩ : ∃ b : Bool, ((x.kind : Int) == 10) = b := ⟨_, rfl⟩
    refine wa_do (some 13) (.bool zc2) (by kernel_rfl) (by kernel_rfl) (rb_eqlI (k := x.kind) (l := 10) rfl (by kernel_rfl) (by kernel_rfl) hzc2) ?_
    refine wa_q (some 12) (.bool zc2) (by kernel_rfl) ?_
    refine wa_nil ?_
    refine la_code ?_
    cases zc2 with
    | true =>
      have hk12 : (((x.kind : Int) == 10)) = true := by rw [hzc2]
      simp only [sB] at hk12
      refine ca_true (by kernel_rfl) (by kernel_rfl) ?_
      refine ca_skip ?_
      refine la_code ?_
      refine ca_true (by kernel_rfl) (by kernel_rfl) ?_
      refine ca_seq ?_
      refine ca_region ?_
      refine wa_q (some 15) (.pointer (some ⟨xb, 1, none⟩)) (by kernel_rfl) ?_
      refine wa_do (some 16) (.int .i64 x.a) (by kernel_rfl) (by kernel_rfl) (rl_int rfl (by kernel_rfl) ((HX.keep HBK).cell (i := 1) rfl)) ?_
      refine wa_q (some 17) (.pointer (some ⟨Q, 0, none⟩)) (by kernel_rfl) ?_
      refine wa_do (some 18) (.slice Ai c.ins.length ci) (by kernel_rfl) (by kernel_rfl) (rl_ins rfl (by kernel_rfl) ((HC2.keep HBK).cell (i := 0) rfl)) ?_
      refine wa_q (some 19) (.int .i64 c.ins.length) (by kernel_rfl) ?_
      refine wa_do (some 20) (.int .i64 ((c.ins.length : Int) - 1)) (by kernel_rfl) (by kernel_rfl) (rb_subI (k := c.ins.length) (l := 1) rfl (by kernel_rfl) (by kernel_rfl) (by omega) (by omega) rfl) ?_
      obtain ⟨zw1, hzw1⟩ : ∃ b : Bool, decide ((0 : Int) ≤ x.a ∧ x.a ≤ ((c.ins.length : Int) - 1)) = b := ⟨_, rfl⟩
      refine wa_sy (some 21) (.bool zw1) (by kernel_rfl) (by kernel_rfl) 61 #[.int .i64 x.a, .int .i64 0, .int .i64 ((c.ins.length : Int) - 1)] (by kernel_rfl) (keepWi hzw1) ?_
      intro WD hb
      replace HBC := HBC.tr hb
      replace HBK := HBK.tr hb
      clear hb
      refine wa_q (some 4) (.bool zw1) (by kernel_rfl) ?_
      refine wa_nil ?_
      refine la_code ?_
      refine ca_ret ?_
      refine la_block_ret ?_
      refine la_then_ret ?_
      have hA : insA c x = zw1 := by
        unfold insA
        rw [if_neg (by omega), if_pos (by omega)]
        have h1 : (decide ((0 : Int) ≤ x.a ∧ x.a ≤ ((c.ins.length : Int) - 1))) = zw1 := by rw [hzw1]
        exact h1
      refine la_ret1 4 (.bool zw1) rfl (by kernel_rfl) ?_
      exact ⟨by rw [hA], HBC⟩
    | false =>
      have hk12 : (((x.kind : Int) == 10)) = false := by rw [hzc2]
      simp only [sB] at hk12
      refine ca_false (by kernel_rfl) (by kernel_rfl) ?_
      refine ca_region ?_
      obtain ⟨zc3, hzc3⟩ : ∃ b : Bool, ((x.kind : Int) == 11) = b := ⟨_, rfl⟩
      refine wa_do (some 14) (.bool zc3) (by kernel_rfl) (by kernel_rfl) (rb_eqlI (k := x.kind) (l := 11) rfl (by kernel_rfl) (by kernel_rfl) hzc3) ?_
      refine wa_q (some 12) (.bool zc3) (by kernel_rfl) ?_
      refine wa_nil ?_
      refine la_code ?_
      cases zc3 with
      | true =>
        have hk12 : (((x.kind : Int) == 11)) = true := by rw [hzc3]
        simp only [sB] at hk12
        refine ca_true (by kernel_rfl) (by kernel_rfl) ?_
        refine ca_seq ?_
        refine ca_region ?_
        refine wa_q (some 15) (.pointer (some ⟨xb, 1, none⟩)) (by kernel_rfl) ?_
        refine wa_do (some 16) (.int .i64 x.a) (by kernel_rfl) (by kernel_rfl) (rl_int rfl (by kernel_rfl) ((HX.keep HBK).cell (i := 1) rfl)) ?_
        refine wa_q (some 17) (.pointer (some ⟨Q, 0, none⟩)) (by kernel_rfl) ?_
        refine wa_do (some 18) (.slice Ai c.ins.length ci) (by kernel_rfl) (by kernel_rfl) (rl_ins rfl (by kernel_rfl) ((HC2.keep HBK).cell (i := 0) rfl)) ?_
        refine wa_q (some 19) (.int .i64 c.ins.length) (by kernel_rfl) ?_
        refine wa_do (some 20) (.int .i64 ((c.ins.length : Int) - 1)) (by kernel_rfl) (by kernel_rfl) (rb_subI (k := c.ins.length) (l := 1) rfl (by kernel_rfl) (by kernel_rfl) (by omega) (by omega) rfl) ?_
        obtain ⟨zw2, hzw2⟩ : ∃ b : Bool, decide ((0 : Int) ≤ x.a ∧ x.a ≤ ((c.ins.length : Int) - 1)) = b := ⟨_, rfl⟩
        refine wa_sy (some 21) (.bool zw2) (by kernel_rfl) (by kernel_rfl) 61 #[.int .i64 x.a, .int .i64 0, .int .i64 ((c.ins.length : Int) - 1)] (by kernel_rfl) (keepWi hzw2) ?_
        intro WD hb
        replace HBC := HBC.tr hb
        replace HBK := HBK.tr hb
        clear hb
        refine wa_q (some 4) (.bool zw2) (by kernel_rfl) ?_
        refine wa_nil ?_
        refine la_code ?_
        refine ca_ret ?_
        refine la_block_ret ?_
        refine la_then_ret ?_
        have hA : insA c x = zw2 := by
          unfold insA
          rw [if_neg (by omega), if_pos (by omega)]
          have h1 : (decide ((0 : Int) ≤ x.a ∧ x.a ≤ ((c.ins.length : Int) - 1))) = zw2 := by rw [hzw2]
          exact h1
        refine la_ret1 4 (.bool zw2) rfl (by kernel_rfl) ?_
        exact ⟨by rw [hA], HBC⟩
      | false =>
        have hk12 : (((x.kind : Int) == 11)) = false := by rw [hzc3]
        simp only [sB] at hk12
        refine ca_false (by kernel_rfl) (by kernel_rfl) ?_
        refine ca_seq ?_
        refine ca_region ?_
        obtain ⟨zc4, hzc4⟩ : ∃ b : Bool, ((x.kind : Int) == 5) = b := ⟨_, rfl⟩
        refine wa_do (some 23) (.bool zc4) (by kernel_rfl) (by kernel_rfl) (rb_eqlI (k := x.kind) (l := 5) rfl (by kernel_rfl) (by kernel_rfl) hzc4) ?_
        refine wa_q (some 22) (.bool zc4) (by kernel_rfl) ?_
        refine wa_nil ?_
        refine la_code ?_
        cases zc4 with
        | true =>
          have hk22 : (((x.kind : Int) == 5)) = true := by rw [hzc4]
          simp only [sB] at hk22
          refine ca_true (by kernel_rfl) (by kernel_rfl) ?_
          refine ca_seq ?_
          refine ca_region ?_
          refine wa_q (some 24) (.pointer (some ⟨xb, 1, none⟩)) (by kernel_rfl) ?_
          refine wa_do (some 25) (.int .i64 x.a) (by kernel_rfl) (by kernel_rfl) (rl_int rfl (by kernel_rfl) ((HX.keep HBK).cell (i := 1) rfl)) ?_
          obtain ⟨zw3, hzw3⟩ : ∃ b : Bool, decide ((4 : Int) ≤ x.a ∧ x.a ≤ 10) = b := ⟨_, rfl⟩
          refine wa_sy (some 26) (.bool zw3) (by kernel_rfl) (by kernel_rfl) 61 #[.int .i64 x.a, .int .i64 4, .int .i64 10] (by kernel_rfl) (keepWi hzw3) ?_
          intro WD hb
          replace HBC := HBC.tr hb
          replace HBK := HBK.tr hb
          clear hb
          refine wa_q (some 4) (.bool zw3) (by kernel_rfl) ?_
          refine wa_nil ?_
          refine la_code ?_
          refine ca_ret ?_
          refine la_block_ret ?_
          refine la_then_ret ?_
          have hA : insA c x = zw3 := by
            unfold insA
            rw [if_neg (by omega), if_neg (by omega), if_pos (by omega)]
            have h1 : (decide ((4 : Int) ≤ x.a ∧ x.a ≤ 10)) = zw3 := by rw [hzw3]
            exact h1
          refine la_ret1 4 (.bool zw3) rfl (by kernel_rfl) ?_
          exact ⟨by rw [hA], HBC⟩
        | false =>
          have hk22 : (((x.kind : Int) == 5)) = false := by rw [hzc4]
          simp only [sB] at hk22
          refine ca_false (by kernel_rfl) (by kernel_rfl) ?_
          refine ca_seq ?_
          refine ca_region ?_
          obtain ⟨zc5, hzc5⟩ : ∃ b : Bool, ((x.kind : Int) == 12) = b := ⟨_, rfl⟩
          refine wa_do (some 28) (.bool zc5) (by kernel_rfl) (by kernel_rfl) (rb_eqlI (k := x.kind) (l := 12) rfl (by kernel_rfl) (by kernel_rfl) hzc5) ?_
          refine wa_q (some 27) (.bool zc5) (by kernel_rfl) ?_
          refine wa_nil ?_
          refine la_code ?_
          cases zc5 with
          | true =>
            have hk27 : (((x.kind : Int) == 12)) = true := by rw [hzc5]
            simp only [sB] at hk27
            refine ca_true (by kernel_rfl) (by kernel_rfl) ?_
            refine ca_seq ?_
            refine ca_region ?_
            refine wa_q (some 29) (.pointer (some ⟨xb, 1, none⟩)) (by kernel_rfl) ?_
            refine wa_do (some 30) (.int .i64 x.a) (by kernel_rfl) (by kernel_rfl) (rl_int rfl (by kernel_rfl) ((HX.keep HBK).cell (i := 1) rfl)) ?_
            refine wa_q (some 31) (.pointer (some ⟨Q, 1, none⟩)) (by kernel_rfl) ?_
            refine wa_do (some 32) (.slice Af c.first.length cf) (by kernel_rfl) (by kernel_rfl) (rl_is rfl (by kernel_rfl) ((HC2.keep HBK).cell (i := 1) rfl)) ?_
            refine wa_q (some 33) (.int .i64 c.first.length) (by kernel_rfl) ?_
            refine wa_do (some 34) (.int .i64 ((c.first.length : Int) - 1)) (by kernel_rfl) (by kernel_rfl) (rb_subI (k := c.first.length) (l := 1) rfl (by kernel_rfl) (by kernel_rfl) (by omega) (by omega) rfl) ?_
            obtain ⟨zw4, hzw4⟩ : ∃ b : Bool, decide ((0 : Int) ≤ x.a ∧ x.a ≤ ((c.first.length : Int) - 1)) = b := ⟨_, rfl⟩
            refine wa_sy (some 35) (.bool zw4) (by kernel_rfl) (by kernel_rfl) 61 #[.int .i64 x.a, .int .i64 0, .int .i64 ((c.first.length : Int) - 1)] (by kernel_rfl) (keepWi hzw4) ?_
            intro WD hb
            replace HBC := HBC.tr hb
            replace HBK := HBK.tr hb
            clear hb
            refine wa_q (some 36) (.bool zw4) (by kernel_rfl) ?_
            refine wa_if (some 37) zw4 (.pointer (some ⟨xb, 2, none⟩)) (by kernel_rfl) (by kernel_rfl) (by cases zw4 <;> kernel_rfl) (fun hG => by subst hG; kernel_rfl) ?_
            refine wa_if (some 38) zw4 (.int .i64 x.b) (by kernel_rfl) (by kernel_rfl) (by cases zw4 <;> kernel_rfl) (fun hG => by subst hG; exact rl_int rfl (by kernel_rfl) ((HX.keep HBK).cell (i := 2) rfl)) ?_
            obtain ⟨zw5, hzw5⟩ : ∃ b : Bool, decide ((0 : Int) ≤ x.b ∧ x.b ≤ 3) = b := ⟨_, rfl⟩
            refine wa_callif (some 39) zw4 (.bool zw5) (by kernel_rfl) (by kernel_rfl) (by cases zw4 <;> kernel_rfl) 61 #[.int .i64 x.b, .int .i64 0, .int .i64 3] (fun hG => by subst hG; kernel_rfl) (keepWi hzw5) ?_
            intro WD hb
            replace HBC := HBC.tr hb
            replace HBK := HBK.tr hb
            clear hb
            obtain ⟨zr6, hzr6⟩ : ∃ b : Bool, (zw4 && zw5) = b := ⟨_, rfl⟩
            refine wa_do (some 40) (.bool zr6) (by kernel_rfl) (by kernel_rfl) (by subst hzr6; cases zw4 <;> (kernel_rfl)) ?_
            refine wa_q (some 4) (.bool zr6) (by kernel_rfl) ?_
            refine wa_nil ?_
            refine la_code ?_
            refine ca_ret ?_
            refine la_block_ret ?_
            refine la_then_ret ?_
            have hA : insA c x = zr6 := by
              unfold insA
              rw [if_neg (by omega), if_neg (by omega), if_neg (by omega), if_pos (by omega)]
              have h1 : ((decide ((0 : Int) ≤ x.a ∧ x.a ≤ ((c.first.length : Int) - 1))) && (decide ((0 : Int) ≤ x.b ∧ x.b ≤ 3))) = zr6 := by rw [hzw4, hzw5, hzr6]
              exact h1
            refine la_ret1 4 (.bool zr6) rfl (by kernel_rfl) ?_
            exact ⟨by rw [hA], HBC⟩
          | false =>
            have hk27 : (((x.kind : Int) == 12)) = false := by rw [hzc5]
            simp only [sB] at hk27
            refine ca_false (by kernel_rfl) (by kernel_rfl) ?_
            refine ca_seq ?_
            refine ca_seq ?_
            refine ca_region ?_
            obtain ⟨zc7, hzc7⟩ : ∃ b : Bool, ((x.kind : Int) == 9) = b := ⟨_, rfl⟩
            refine wa_do (some 42) (.bool zc7) (by kernel_rfl) (by kernel_rfl) (rb_eqlI (k := x.kind) (l := 9) rfl (by kernel_rfl) (by kernel_rfl) hzc7) ?_
            refine wa_q (some 41) (.bool zc7) (by kernel_rfl) ?_
            refine wa_nil ?_
            refine la_code ?_
            cases zc7 with
            | true =>
              have hk41 : (((x.kind : Int) == 9)) = true := by rw [hzc7]
              simp only [sB] at hk41
              refine ca_true (by kernel_rfl) (by kernel_rfl) ?_
              refine ca_skip ?_
              refine la_code ?_
              refine ca_true (by kernel_rfl) (by kernel_rfl) ?_
              refine ca_seq ?_
              refine ca_region ?_
              refine wa_q (some 4) (.bool true) (by kernel_rfl) ?_
              refine wa_nil ?_
              refine la_code ?_
              refine ca_ret ?_
              refine la_block_ret ?_
              refine la_then_ret ?_
              have hA : insA c x = true := by
                unfold insA
                rw [if_neg (by omega), if_neg (by omega), if_neg (by omega), if_neg (by omega), if_pos (by omega)]
              refine la_ret1 4 (.bool true) rfl (by kernel_rfl) ?_
              exact ⟨by rw [hA], HBC⟩
            | false =>
              have hk41 : (((x.kind : Int) == 9)) = false := by rw [hzc7]
              simp only [sB] at hk41
              refine ca_false (by kernel_rfl) (by kernel_rfl) ?_
              refine ca_seq ?_
              refine ca_region ?_
              obtain ⟨zc8, hzc8⟩ : ∃ b : Bool, ((x.kind : Int) == 13) = b := ⟨_, rfl⟩
              refine wa_do (some 43) (.bool zc8) (by kernel_rfl) (by kernel_rfl) (rb_eqlI (k := x.kind) (l := 13) rfl (by kernel_rfl) (by kernel_rfl) hzc8) ?_
              refine wa_q (some 41) (.bool zc8) (by kernel_rfl) ?_
              refine wa_nil ?_
              refine la_code ?_
              cases zc8 with
              | true =>
                have hk41 : (((x.kind : Int) == 13)) = true := by rw [hzc8]
                simp only [sB] at hk41
                refine ca_true (by kernel_rfl) (by kernel_rfl) ?_
                refine ca_skip ?_
                refine la_code ?_
                refine ca_true (by kernel_rfl) (by kernel_rfl) ?_
                refine ca_seq ?_
                refine ca_region ?_
                refine wa_q (some 4) (.bool true) (by kernel_rfl) ?_
                refine wa_nil ?_
                refine la_code ?_
                refine ca_ret ?_
                refine la_block_ret ?_
                refine la_then_ret ?_
                have hA : insA c x = true := by
                  unfold insA
                  rw [if_neg (by omega), if_neg (by omega), if_neg (by omega), if_neg (by omega), if_pos (by omega)]
                refine la_ret1 4 (.bool true) rfl (by kernel_rfl) ?_
                exact ⟨by rw [hA], HBC⟩
              | false =>
                have hk41 : (((x.kind : Int) == 13)) = false := by rw [hzc8]
                simp only [sB] at hk41
                refine ca_false (by kernel_rfl) (by kernel_rfl) ?_
                refine ca_region ?_
                obtain ⟨zc9, hzc9⟩ : ∃ b : Bool, ((x.kind : Int) == 14) = b := ⟨_, rfl⟩
                refine wa_do (some 44) (.bool zc9) (by kernel_rfl) (by kernel_rfl) (rb_eqlI (k := x.kind) (l := 14) rfl (by kernel_rfl) (by kernel_rfl) hzc9) ?_
                refine wa_q (some 41) (.bool zc9) (by kernel_rfl) ?_
                refine wa_nil ?_
                refine la_code ?_
                cases zc9 with
                | true =>
                  have hk41 : (((x.kind : Int) == 14)) = true := by rw [hzc9]
                  simp only [sB] at hk41
                  refine ca_true (by kernel_rfl) (by kernel_rfl) ?_
                  refine ca_seq ?_
                  refine ca_region ?_
                  refine wa_q (some 4) (.bool true) (by kernel_rfl) ?_
                  refine wa_nil ?_
                  refine la_code ?_
                  refine ca_ret ?_
                  refine la_block_ret ?_
                  refine la_then_ret ?_
                  have hA : insA c x = true := by
                    unfold insA
                    rw [if_neg (by omega), if_neg (by omega), if_neg (by omega), if_neg (by omega), if_pos (by omega)]
                  refine la_ret1 4 (.bool true) rfl (by kernel_rfl) ?_
                  exact ⟨by rw [hA], HBC⟩
                | false =>
                  have hk41 : (((x.kind : Int) == 14)) = false := by rw [hzc9]
                  simp only [sB] at hk41
                  refine ca_false (by kernel_rfl) (by kernel_rfl) ?_
                  refine ca_skip ?_
                  refine la_block_normal ?_
                  refine la_code ?_
                  refine ca_seq ?_
                  refine ca_region ?_
                  refine wa_q (some 45) (.pointer (some ⟨xb, 1, none⟩)) (by kernel_rfl) ?_
                  refine wa_do (some 46) (.int .i64 x.a) (by kernel_rfl) (by kernel_rfl) (rl_int rfl (by kernel_rfl) ((HX.keep HBK).cell (i := 1) rfl)) ?_
                  obtain ⟨zc10, hzc10⟩ : ∃ b : Bool, decide ((0 : Int) ≤ x.a) = b := ⟨_, rfl⟩
                  refine wa_do (some 47) (.bool zc10) (by kernel_rfl) (by kernel_rfl) (rb_geqI (k := x.a) (l := 0) rfl (by kernel_rfl) (by kernel_rfl) hzc10) ?_
                  refine wa_q (some 4) (.bool zc10) (by kernel_rfl) ?_
                  refine wa_nil ?_
                  refine la_code ?_
                  refine ca_ret ?_
                  have hA : insA c x = zc10 := by
                    unfold insA
                    rw [if_neg (by omega), if_neg (by omega), if_neg (by omega), if_neg (by omega), if_neg (by omega)]
                    have h1 : (decide ((0 : Int) ≤ x.a)) = zc10 := by rw [hzc10]
                    exact h1
                  refine la_ret1 4 (.bool zc10) rfl (by kernel_rfl) ?_
                  exact ⟨by rw [hA], HBC⟩
set_option maxRecDepth 20000 in
theorem check1_any (c : Cd) (Q : Nat) (Ai : Option Addr) (ci : Nat) (v1 v2 : Value) (hli : c.ins.length ≤ 9223372036854775807) (x : Int) (w : World) (HC : Blk w Q CDT #[.slice Ai c.ins.length ci, v1, v2]) :
    Calls Try.prog 60 #[.int .i64 x, .pointer (some ⟨Q, 0, none⟩)] w fun r w' => r = .returned (.bool (!decide (0 ≤ x ∧ x ≤ (c.ins.length : Int) - 1))) ∧ Bel w w' := by
  have HBC := Bel.rfl_ w
  refine af_enter (c := _) (args := [.int .i64 x, .pointer (some ⟨Q, 0, none⟩)]) Try.func60 rfl Try.ntmps60 (by kernel_rfl) ?_
  refine ca_seq ?_
  refine ca_region ?_
  refine wa_q (some 3) (.bool false) (by kernel_rfl) ?_
  refine wa_nil ?_
  refine la_code ?_
  refine ca_seq ?_
  refine ca_region ?_
  refine wa_q (some 4) (.int .i64 x) (by kernel_rfl) ?_
  refine wa_q (some 5) (.pointer (some ⟨Q, 0, none⟩)) (by kernel_rfl) ?_
  refine wa_do (some 6) (.slice Ai c.ins.length ci) (by kernel_rfl) (by kernel_rfl) (rl_ins rfl (by kernel_rfl) (HC.cell (i := 0) rfl)) ?_
  refine wa_q (some 7) (.int .i64 c.ins.length) (by kernel_rfl) ?_
  refine wa_do (some 8) (.int .i64 ((c.ins.length : Int) - 1)) (by kernel_rfl) (by kernel_rfl) (rb_subI (k := c.ins.length) (l := 1) rfl (by kernel_rfl) (by kernel_rfl) (by omega) (by omega) rfl) ?_
  obtain ⟨zw6, hzw6⟩ : ∃ b : Bool, decide ((0 : Int) ≤ x ∧ x ≤ ((c.ins.length : Int) - 1)) = b := ⟨_, rfl⟩
  refine wa_sy (some 9) (.bool zw6) (by kernel_rfl) (by kernel_rfl) 61 #[.int .i64 x, .int .i64 0, .int .i64 ((c.ins.length : Int) - 1)] (by kernel_rfl) (keepWi hzw6) ?_
  intro WD hb
  replace HBC := HBC.tr hb
  clear hb
  obtain ⟨zr1, hzr1⟩ : ∃ b : Bool, (!zw6) = b := ⟨_, rfl⟩
  refine wa_do (some 10) (.bool zr1) (by kernel_rfl) (by kernel_rfl) (by subst hzr1; kernel_rfl) ?_
  refine wa_q (some 3) (.bool zr1) (by kernel_rfl) ?_
  refine wa_nil ?_
  refine la_code ?_
  refine ca_ret ?_
  refine la_ret1 3 (.bool zr1) rfl (by kernel_rfl) ?_
  exact ⟨by subst_vars; rfl, HBC⟩
theorem check21_any (x : Int) (w : World) : Calls Try.prog 64 #[.int .i64 x] w fun r w' => r = .returned (.bool (!decide (0 ≤ x ∧ x ≤ 8))) ∧ Bel w w' := by
  have HBC := Bel.rfl_ w
  refine af_enter (c := _) (args := [.int .i64 x]) Try.func64 rfl Try.ntmps64 (by kernel_rfl) ?_
  refine ca_seq ?_
  refine ca_region ?_
  refine wa_q (some 2) (.bool false) (by kernel_rfl) ?_
  refine wa_nil ?_
  refine la_code ?_
  refine ca_seq ?_
  refine ca_region ?_
  refine wa_q (some 3) (.int .i64 x) (by kernel_rfl) ?_
  obtain ⟨zw7, hzw7⟩ : ∃ b : Bool, decide ((0 : Int) ≤ x ∧ x ≤ 8) = b := ⟨_, rfl⟩
  refine wa_sy (some 4) (.bool zw7) (by kernel_rfl) (by kernel_rfl) 61 #[.int .i64 x, .int .i64 0, .int .i64 8] (by kernel_rfl) (keepWi hzw7) ?_
  intro WD hb
  replace HBC := HBC.tr hb
  clear hb
  obtain ⟨zr1, hzr1⟩ : ∃ b : Bool, (!zw7) = b := ⟨_, rfl⟩
  refine wa_do (some 5) (.bool zr1) (by kernel_rfl) (by kernel_rfl) (by subst hzr1; kernel_rfl) ?_
  refine wa_q (some 2) (.bool zr1) (by kernel_rfl) ?_
  refine wa_nil ?_
  refine la_code ?_
  refine ca_ret ?_
  refine la_ret1 2 (.bool zr1) rfl (by kernel_rfl) ?_
  exact ⟨by subst_vars; rfl, HBC⟩
set_option maxRecDepth 20000 in
theorem index_c1 (Q : Nat) (p : Int → Bool) (l : List Int) (v : Value) (w : World) (h : Sl intR w v l) (IH : ∀ (x : Int) (W : World), Bel w W → Calls Try.prog 60 #[.int .i64 x, .pointer (some ⟨Q, 0, none⟩)] W fun r w' => r = .returned (.bool (p x)) ∧ Bel W w') :
    Calls Try.prog 108 #[v, .func (.func 60) #[] #[.pointer (some ⟨Q, 0, none⟩)]] w fun r w' => ∃ k : Int, r = .returned (.int .i64 k) ∧ decide (0 ≤ k) = l.any p ∧ Bel w w' := by
  obtain ⟨A, c, rfl, hll⟩ := sl_lit h
  obtain ⟨T, hT⟩ : ∃ T, l.any p = T := ⟨_, rfl⟩
  have hT0 : (l.drop 0).any p = T := hT
  rw [hT]
  have HB := Bel.rfl_ w
  refine af_enter (c := _) (args := [.slice A l.length c, .func (.func 60) #[] #[.pointer (some ⟨Q, 0, none⟩)]]) Try.func108 rfl Try.ntmps108 (by kernel_rfl) ?_
  refine ca_seq ?_
  refine ca_region ?_
  refine wa_q (some 4) (.int .i64 0) (by kernel_rfl) ?_
  refine wa_nil ?_
  refine la_code ?_
  refine ca_seq ?_
  refine ca_seq ?_
  refine ca_region ?_
  refine wa_q (some 6) (.slice A l.length c) (by kernel_rfl) ?_
  refine wa_q (some 7) (.int .i64 l.length) (by kernel_rfl) ?_
  refine wa_q (some 8) (.int .i64 0) (by kernel_rfl) ?_
  refine wa_nil ?_
  refine la_code ?_
  refine ca_block ?_
  refine ca_loop (α := Nat) (fun j W => j ≤ l.length ∧ (l.drop j).any p = T ∧ Bel w W) (fun j => [(0, .slice A l.length c), (1, .func (.func 60) #[] #[.pointer (some ⟨Q, 0, none⟩)]), (7, .int .i64 l.length), (8, .int .i64 (j : Int))]) (fun j => l.length - j) 0 [0, 1, 7, 8] (by kernel_rfl) ⟨Nat.zero_le _, hT0, HB⟩ ?_
  clear HB hT0
  rintro j WC ⟨hj, hTj, HB⟩
  refine ca_seq ?_
  refine ca_region ?_
  obtain ⟨zc1, hzc1⟩ : ∃ b : Bool, decide (((j : Int) : Int) < l.length) = b := ⟨_, rfl⟩
  refine wa_do (some 9) (.bool zc1) (by kernel_rfl) (by kernel_rfl) (rb_lssI (k := (j : Int)) (l := l.length) rfl (by kernel_rfl) (by kernel_rfl) hzc1) ?_
  refine wa_nil ?_
  refine la_code ?_
  refine ca_seq ?_
  cases zc1 with
  | true =>
    have hq : (decide (((j : Int) : Int) < l.length)) = true := by rw [hzc1]
    simp only [sB] at hq
    have hjl : j < l.length := by omega
    obtain ⟨x, hx⟩ : ∃ x, l[j]? = some x := ⟨_, List.getElem?_eq_getElem hjl⟩
    obtain ⟨b, o, rfl, hxc⟩ := vars_cell h hx
    obtain ⟨zp, hpx⟩ : ∃ b, p x = b := ⟨_, rfl⟩
    refine ca_true (by kernel_rfl) (by kernel_rfl) ?_
    refine ca_skip ?_
    refine la_code ?_
    refine ca_seq ?_
    refine ca_block ?_
    refine ca_seq ?_
    refine ca_region ?_
    refine wa_q (some 10) (.int .i64 (j : Int)) (by kernel_rfl) ?_
    refine wa_q (some 5) (.int .i64 (j : Int)) (by kernel_rfl) ?_
    refine wa_nil ?_
    refine la_code ?_
    refine ca_seq ?_
    refine ca_region ?_
    refine wa_q (some 11) (.func (.func 60) #[] #[.pointer (some ⟨Q, 0, none⟩)]) (by kernel_rfl) ?_
    refine wa_q (some 12) (.slice (some ⟨b, o, none⟩) l.length c) (by kernel_rfl) ?_
    refine wa_q (some 13) (.int .i64 (j : Int)) (by kernel_rfl) ?_
    refine wa_do (some 14) (.pointer (some ⟨b, o + j, none⟩)) (by kernel_rfl) (by kernel_rfl) (run_ix1 elI b o l.length c j rfl (by kernel_rfl) (by kernel_rfl) hjl) ?_
    refine wa_do (some 15) (.int .i64 x) (by kernel_rfl) (by kernel_rfl) (rl_int rfl (by kernel_rfl) (HB.cell hxc)) ?_
    refine wa_sy (some 16) (.bool zp) (by kernel_rfl) (by kernel_rfl) 60 #[.int .i64 x, .pointer (some ⟨Q, 0, none⟩)] (by kernel_rfl) (hpx ▸ IH x _ HB) ?_
    intro WD hb
    replace HB := HB.tr hb
    clear hb
    refine wa_nil ?_
    refine la_code ?_
    cases zp with
    | true =>
      have hfin : true = T := by rw [← hTj, any_drop hx, hpx]; rfl
      refine ca_true (by kernel_rfl) (by kernel_rfl) ?_
      refine ca_seq ?_
      refine ca_region ?_
      refine wa_q (some 17) (.int .i64 (j : Int)) (by kernel_rfl) ?_
      refine wa_q (some 4) (.int .i64 (j : Int)) (by kernel_rfl) ?_
      refine wa_nil ?_
      refine la_code ?_
      refine ca_ret ?_
      refine la_block_ret ?_
      refine la_then_ret ?_
      refine la_then_ret ?_
      refine la_block_ret ?_
      refine la_then_ret ?_
      refine la_ret1 4 (.int .i64 (j : Int)) rfl (by kernel_rfl) ?_
      exact ⟨_, rfl, by rw [← hfin]; exact decide_eq_true (by omega), HB⟩
    | false =>
      refine ca_false (by kernel_rfl) (by kernel_rfl) ?_
      refine ca_skip ?_
      refine la_block_normal ?_
      refine la_code ?_
      refine ca_region ?_
      refine wa_do (some 18) (.int .i64 ((j : Int) + 1)) (by kernel_rfl) (by kernel_rfl) (rb_add64 (k := (j : Int)) (l := 1) rfl (by kernel_rfl) (by kernel_rfl) (by omega) (by omega) rfl) ?_
      refine wa_q (some 8) (.int .i64 ((j : Int) + 1)) (by kernel_rfl) ?_
      refine wa_nil ?_
      refine la_meet (j + 1) [0, 1, 7, 8] (by kernel_rfl) ⟨⟨by omega, by rw [← hTj, any_drop hx, hpx]; rfl, HB⟩, by omega⟩
  | false =>
    have hq : (decide (((j : Int) : Int) < l.length)) = false := by rw [hzc1]
    simp only [sB] at hq
    have hfin : T = false := by rw [← hTj, List.drop_eq_nil_of_le (by omega)]; rfl
    refine ca_false (by kernel_rfl) (by kernel_rfl) ?_
    refine ca_exit ?_
    refine la_then_exit ?_
    refine la_then_exit ?_
    refine la_block_hit ?_
    refine la_code ?_
    refine ca_seq ?_
    refine ca_region ?_
    refine wa_q (some 4) (.int .i64 (-1)) (by kernel_rfl) ?_
    refine wa_nil ?_
    refine la_code ?_
    refine ca_ret ?_
    refine la_ret1 4 (.int .i64 (-1)) rfl (by kernel_rfl) ?_
    exact ⟨_, rfl, by rw [hfin]; decide, HB⟩
theorem contains_c1 (Q : Nat) (p : Int → Bool) (l : List Int) (v : Value) (w : World) (h : Sl intR w v l) (IH : ∀ (x : Int) (W : World), Bel w W → Calls Try.prog 60 #[.int .i64 x, .pointer (some ⟨Q, 0, none⟩)] W fun r w' => r = .returned (.bool (p x)) ∧ Bel W w') :
    Calls Try.prog 59 #[v, .func (.func 60) #[] #[.pointer (some ⟨Q, 0, none⟩)]] w fun r w' => r = .returned (.bool (l.any p)) ∧ Bel w w' := by
  have HB := Bel.rfl_ w
  obtain ⟨A, c, rfl, -⟩ := sl_lit h
  refine af_enter (c := _) (args := [.slice A l.length c, .func (.func 60) #[] #[.pointer (some ⟨Q, 0, none⟩)]]) Try.func59 rfl Try.ntmps59 (by kernel_rfl) ?_
  refine ca_seq ?_
  refine ca_region ?_
  refine wa_q (some 4) (.bool false) (by kernel_rfl) ?_
  refine wa_nil ?_
  refine la_code ?_
  refine ca_seq ?_
  refine ca_region ?_
  refine wa_q (some 5) (.slice A l.length c) (by kernel_rfl) ?_
  refine wa_q (some 6) (.func (.func 60) #[] #[.pointer (some ⟨Q, 0, none⟩)]) (by kernel_rfl) ?_
  refine wa_call (some 7) (by kernel_rfl) (by kernel_rfl) 108 #[.slice A l.length c, .func (.func 60) #[] #[.pointer (some ⟨Q, 0, none⟩)]] (by kernel_rfl) (index_c1 Q p l _ _ h IH) ?_
  rintro r WD ⟨k, rfl, hk, hb⟩
  replace HB := HB.tr hb
  refine ⟨_, rfl, ?_⟩
  obtain ⟨zc1, hzc1⟩ : ∃ b : Bool, decide ((0 : Int) ≤ k) = b := ⟨_, rfl⟩
  refine wa_do (some 8) (.bool zc1) (by kernel_rfl) (by kernel_rfl) (rb_geqI (k := k) (l := 0) rfl (by kernel_rfl) (by kernel_rfl) hzc1) ?_
  refine wa_q (some 4) (.bool zc1) (by kernel_rfl) ?_
  refine wa_nil ?_
  refine la_code ?_
  refine ca_ret ?_
  refine la_ret1 4 (.bool zc1) rfl (by kernel_rfl) ?_
  exact ⟨by rw [← hk]; subst_vars; rfl, HB⟩
set_option maxRecDepth 20000 in
theorem index_c21 (p : Int → Bool) (l : List Int) (v : Value) (w : World) (h : Sl intR w v l) (IH : ∀ (x : Int) (W : World), Bel w W → Calls Try.prog 64 #[.int .i64 x] W fun r w' => r = .returned (.bool (p x)) ∧ Bel W w') :
    Calls Try.prog 108 #[v, .func (.func 64) #[] #[]] w fun r w' => ∃ k : Int, r = .returned (.int .i64 k) ∧ decide (0 ≤ k) = l.any p ∧ Bel w w' := by
  obtain ⟨A, c, rfl, hll⟩ := sl_lit h
  obtain ⟨T, hT⟩ : ∃ T, l.any p = T := ⟨_, rfl⟩
  have hT0 : (l.drop 0).any p = T := hT
  rw [hT]
  have HB := Bel.rfl_ w
  refine af_enter (c := _) (args := [.slice A l.length c, .func (.func 64) #[] #[]]) Try.func108 rfl Try.ntmps108 (by kernel_rfl) ?_
  refine ca_seq ?_
  refine ca_region ?_
  refine wa_q (some 4) (.int .i64 0) (by kernel_rfl) ?_
  refine wa_nil ?_
  refine la_code ?_
  refine ca_seq ?_
  refine ca_seq ?_
  refine ca_region ?_
  refine wa_q (some 6) (.slice A l.length c) (by kernel_rfl) ?_
  refine wa_q (some 7) (.int .i64 l.length) (by kernel_rfl) ?_
  refine wa_q (some 8) (.int .i64 0) (by kernel_rfl) ?_
  refine wa_nil ?_
  refine la_code ?_
  refine ca_block ?_
  refine ca_loop (α := Nat) (fun j W => j ≤ l.length ∧ (l.drop j).any p = T ∧ Bel w W) (fun j => [(0, .slice A l.length c), (1, .func (.func 64) #[] #[]), (7, .int .i64 l.length), (8, .int .i64 (j : Int))]) (fun j => l.length - j) 0 [0, 1, 7, 8] (by kernel_rfl) ⟨Nat.zero_le _, hT0, HB⟩ ?_
  clear HB hT0
  rintro j WC ⟨hj, hTj, HB⟩
  refine ca_seq ?_
  refine ca_region ?_
  obtain ⟨zc1, hzc1⟩ : ∃ b : Bool, decide (((j : Int) : Int) < l.length) = b := ⟨_, rfl⟩
  refine wa_do (some 9) (.bool zc1) (by kernel_rfl) (by kernel_rfl) (rb_lssI (k := (j : Int)) (l := l.length) rfl (by kernel_rfl) (by kernel_rfl) hzc1) ?_
  refine wa_nil ?_
  refine la_code ?_
  refine ca_seq ?_
  cases zc1 with
  | true =>
    have hq : (decide (((j : Int) : Int) < l.length)) = true := by rw [hzc1]
    simp only [sB] at hq
    have hjl : j < l.length := by omega
    obtain ⟨x, hx⟩ : ∃ x, l[j]? = some x := ⟨_, List.getElem?_eq_getElem hjl⟩
    obtain ⟨b, o, rfl, hxc⟩ := vars_cell h hx
    obtain ⟨zp, hpx⟩ : ∃ b, p x = b := ⟨_, rfl⟩
    refine ca_true (by kernel_rfl) (by kernel_rfl) ?_
    refine ca_skip ?_
    refine la_code ?_
    refine ca_seq ?_
    refine ca_block ?_
    refine ca_seq ?_
    refine ca_region ?_
    refine wa_q (some 10) (.int .i64 (j : Int)) (by kernel_rfl) ?_
    refine wa_q (some 5) (.int .i64 (j : Int)) (by kernel_rfl) ?_
    refine wa_nil ?_
    refine la_code ?_
    refine ca_seq ?_
    refine ca_region ?_
    refine wa_q (some 11) (.func (.func 64) #[] #[]) (by kernel_rfl) ?_
    refine wa_q (some 12) (.slice (some ⟨b, o, none⟩) l.length c) (by kernel_rfl) ?_
    refine wa_q (some 13) (.int .i64 (j : Int)) (by kernel_rfl) ?_
    refine wa_do (some 14) (.pointer (some ⟨b, o + j, none⟩)) (by kernel_rfl) (by kernel_rfl) (run_ix1 elI b o l.length c j rfl (by kernel_rfl) (by kernel_rfl) hjl) ?_
    refine wa_do (some 15) (.int .i64 x) (by kernel_rfl) (by kernel_rfl) (rl_int rfl (by kernel_rfl) (HB.cell hxc)) ?_
    refine wa_sy (some 16) (.bool zp) (by kernel_rfl) (by kernel_rfl) 64 #[.int .i64 x] (by kernel_rfl) (hpx ▸ IH x _ HB) ?_
    intro WD hb
    replace HB := HB.tr hb
    clear hb
    refine wa_nil ?_
    refine la_code ?_
    cases zp with
    | true =>
      have hfin : true = T := by rw [← hTj, any_drop hx, hpx]; rfl
      refine ca_true (by kernel_rfl) (by kernel_rfl) ?_
      refine ca_seq ?_
      refine ca_region ?_
      refine wa_q (some 17) (.int .i64 (j : Int)) (by kernel_rfl) ?_
      refine wa_q (some 4) (.int .i64 (j : Int)) (by kernel_rfl) ?_
      refine wa_nil ?_
      refine la_code ?_
      refine ca_ret ?_
      refine la_block_ret ?_
      refine la_then_ret ?_
      refine la_then_ret ?_
      refine la_block_ret ?_
      refine la_then_ret ?_
      refine la_ret1 4 (.int .i64 (j : Int)) rfl (by kernel_rfl) ?_
      exact ⟨_, rfl, by rw [← hfin]; exact decide_eq_true (by omega), HB⟩
    | false =>
      refine ca_false (by kernel_rfl) (by kernel_rfl) ?_
      refine ca_skip ?_
      refine la_block_normal ?_
      refine la_code ?_
      refine ca_region ?_
      refine wa_do (some 18) (.int .i64 ((j : Int) + 1)) (by kernel_rfl) (by kernel_rfl) (rb_add64 (k := (j : Int)) (l := 1) rfl (by kernel_rfl) (by kernel_rfl) (by omega) (by omega) rfl) ?_
      refine wa_q (some 8) (.int .i64 ((j : Int) + 1)) (by kernel_rfl) ?_
      refine wa_nil ?_
      refine la_meet (j + 1) [0, 1, 7, 8] (by kernel_rfl) ⟨⟨by omega, by rw [← hTj, any_drop hx, hpx]; rfl, HB⟩, by omega⟩
  | false =>
    have hq : (decide (((j : Int) : Int) < l.length)) = false := by rw [hzc1]
    simp only [sB] at hq
    have hfin : T = false := by rw [← hTj, List.drop_eq_nil_of_le (by omega)]; rfl
    refine ca_false (by kernel_rfl) (by kernel_rfl) ?_
    refine ca_exit ?_
    refine la_then_exit ?_
    refine la_then_exit ?_
    refine la_block_hit ?_
    refine la_code ?_
    refine ca_seq ?_
    refine ca_region ?_
    refine wa_q (some 4) (.int .i64 (-1)) (by kernel_rfl) ?_
    refine wa_nil ?_
    refine la_code ?_
    refine ca_ret ?_
    refine la_ret1 4 (.int .i64 (-1)) rfl (by kernel_rfl) ?_
    exact ⟨_, rfl, by rw [hfin]; decide, HB⟩
theorem contains_c21 (p : Int → Bool) (l : List Int) (v : Value) (w : World) (h : Sl intR w v l) (IH : ∀ (x : Int) (W : World), Bel w W → Calls Try.prog 64 #[.int .i64 x] W fun r w' => r = .returned (.bool (p x)) ∧ Bel W w') :
    Calls Try.prog 59 #[v, .func (.func 64) #[] #[]] w fun r w' => r = .returned (.bool (l.any p)) ∧ Bel w w' := by
  have HB := Bel.rfl_ w
  obtain ⟨A, c, rfl, -⟩ := sl_lit h
  refine af_enter (c := _) (args := [.slice A l.length c, .func (.func 64) #[] #[]]) Try.func59 rfl Try.ntmps59 (by kernel_rfl) ?_
  refine ca_seq ?_
  refine ca_region ?_
  refine wa_q (some 4) (.bool false) (by kernel_rfl) ?_
  refine wa_nil ?_
  refine la_code ?_
  refine ca_seq ?_
  refine ca_region ?_
  refine wa_q (some 5) (.slice A l.length c) (by kernel_rfl) ?_
  refine wa_q (some 6) (.func (.func 64) #[] #[]) (by kernel_rfl) ?_
  refine wa_call (some 7) (by kernel_rfl) (by kernel_rfl) 108 #[.slice A l.length c, .func (.func 64) #[] #[]] (by kernel_rfl) (index_c21 p l _ _ h IH) ?_
  rintro r WD ⟨k, rfl, hk, hb⟩
  replace HB := HB.tr hb
  refine ⟨_, rfl, ?_⟩
  obtain ⟨zc1, hzc1⟩ : ∃ b : Bool, decide ((0 : Int) ≤ k) = b := ⟨_, rfl⟩
  refine wa_do (some 8) (.bool zc1) (by kernel_rfl) (by kernel_rfl) (rb_geqI (k := k) (l := 0) rfl (by kernel_rfl) (by kernel_rfl) hzc1) ?_
  refine wa_q (some 4) (.bool zc1) (by kernel_rfl) ?_
  refine wa_nil ?_
  refine la_code ?_
  refine ca_ret ?_
  refine la_ret1 4 (.bool zc1) rfl (by kernel_rfl) ?_
  exact ⟨by rw [← hk]; subst_vars; rfl, HB⟩
theorem check2_any (x : List Int) (v : Value) (w : World) (h : Sl intR w v x) : Calls Try.prog 63 #[v] w fun r w' => r = .returned (.bool (x.any fun y => !decide (0 ≤ y ∧ y ≤ 8))) ∧ Bel w w' := by
  have HB := Bel.rfl_ w
  obtain ⟨A, c, rfl, -⟩ := sl_lit h
  obtain ⟨T, hT⟩ : ∃ T, (x.any fun y => !decide (0 ≤ y ∧ y ≤ 8)) = T := ⟨_, rfl⟩
  rw [hT]
  refine af_enter (c := _) (args := [.slice A x.length c]) Try.func63 rfl Try.ntmps63 (by kernel_rfl) ?_
  refine ca_seq ?_
  refine ca_region ?_
  refine wa_q (some 2) (.bool false) (by kernel_rfl) ?_
  refine wa_nil ?_
  refine la_code ?_
  refine ca_seq ?_
  refine ca_region ?_
  refine wa_q (some 3) (.slice A x.length c) (by kernel_rfl) ?_
  refine wa_sy (some 4) (.bool T) (by kernel_rfl) (by kernel_rfl) 59 #[.slice A x.length c, .func (.func 64) #[] #[]] (by kernel_rfl) (hT ▸ contains_c21 _ x _ _ h (fun y W _ => check21_any y W)) ?_
  intro WD hb
  replace HB := HB.tr hb
  clear hb
  refine wa_q (some 2) (.bool T) (by kernel_rfl) ?_
  refine wa_nil ?_
  refine la_code ?_
  refine ca_ret ?_
  refine la_ret1 2 (.bool T) rfl (by kernel_rfl) ?_
  exact ⟨rfl, HB⟩
set_option maxRecDepth 20000 in
theorem index_c2 (p : List Int → Bool) (l : List (List Int)) (v : Value) (w : World) (h : Sl intsR w v l) (IH : ∀ (x : List Int) (v : Value) (W : World), Bel w W → Sl intR W v x → Calls Try.prog 63 #[v] W fun r w' => r = .returned (.bool (p x)) ∧ Bel W w') :
    Calls Try.prog 109 #[v, .func (.func 63) #[] #[]] w fun r w' => ∃ k : Int, r = .returned (.int .i64 k) ∧ decide (0 ≤ k) = l.any p ∧ Bel w w' := by
  obtain ⟨A, c, rfl, hll⟩ := sl_lit h
  obtain ⟨T, hT⟩ : ∃ T, l.any p = T := ⟨_, rfl⟩
  have hT0 : (l.drop 0).any p = T := hT
  rw [hT]
  have HB := Bel.rfl_ w
  refine af_enter (c := _) (args := [.slice A l.length c, .func (.func 63) #[] #[]]) Try.func109 rfl Try.ntmps109 (by kernel_rfl) ?_
  refine ca_seq ?_
  refine ca_region ?_
  refine wa_q (some 4) (.int .i64 0) (by kernel_rfl) ?_
  refine wa_nil ?_
  refine la_code ?_
  refine ca_seq ?_
  refine ca_seq ?_
  refine ca_region ?_
  refine wa_q (some 6) (.slice A l.length c) (by kernel_rfl) ?_
  refine wa_q (some 7) (.int .i64 l.length) (by kernel_rfl) ?_
  refine wa_q (some 8) (.int .i64 0) (by kernel_rfl) ?_
  refine wa_nil ?_
  refine la_code ?_
  refine ca_block ?_
  refine ca_loop (α := Nat) (fun j W => j ≤ l.length ∧ (l.drop j).any p = T ∧ Bel w W) (fun j => [(0, .slice A l.length c), (1, .func (.func 63) #[] #[]), (7, .int .i64 l.length), (8, .int .i64 (j : Int))]) (fun j => l.length - j) 0 [0, 1, 7, 8] (by kernel_rfl) ⟨Nat.zero_le _, hT0, HB⟩ ?_
  clear HB hT0
  rintro j WC ⟨hj, hTj, HB⟩
  refine ca_seq ?_
  refine ca_region ?_
  obtain ⟨zc1, hzc1⟩ : ∃ b : Bool, decide (((j : Int) : Int) < l.length) = b := ⟨_, rfl⟩
  refine wa_do (some 9) (.bool zc1) (by kernel_rfl) (by kernel_rfl) (rb_lssI (k := (j : Int)) (l := l.length) rfl (by kernel_rfl) (by kernel_rfl) hzc1) ?_
  refine wa_nil ?_
  refine la_code ?_
  refine ca_seq ?_
  cases zc1 with
  | true =>
    have hq : (decide (((j : Int) : Int) < l.length)) = true := by rw [hzc1]
    simp only [sB] at hq
    have hjl : j < l.length := by omega
    obtain ⟨x, hx⟩ : ∃ x, l[j]? = some x := ⟨_, List.getElem?_eq_getElem hjl⟩
    obtain ⟨b, o, cs, rfl, HCS, hcx⟩ := h.elem hx
    obtain ⟨ve, rfl, hxe⟩ := HCS
    obtain ⟨Ae, ce, rfl, -⟩ := sl_lit hxe
    have hxc : w.cell? ⟨b, o + j, none⟩ = some (.slice Ae x.length ce) := by have := hcx 0 _ rfl; rwa [show intsR.size = 1 from rfl, Nat.mul_one] at this
    obtain ⟨zp, hpx⟩ : ∃ b, p x = b := ⟨_, rfl⟩
    refine ca_true (by kernel_rfl) (by kernel_rfl) ?_
    refine ca_skip ?_
    refine la_code ?_
    refine ca_seq ?_
    refine ca_block ?_
    refine ca_seq ?_
    refine ca_region ?_
    refine wa_q (some 10) (.int .i64 (j : Int)) (by kernel_rfl) ?_
    refine wa_q (some 5) (.int .i64 (j : Int)) (by kernel_rfl) ?_
    refine wa_nil ?_
    refine la_code ?_
    refine ca_seq ?_
    refine ca_region ?_
    refine wa_q (some 11) (.func (.func 63) #[] #[]) (by kernel_rfl) ?_
    refine wa_q (some 12) (.slice (some ⟨b, o, none⟩) l.length c) (by kernel_rfl) ?_
    refine wa_q (some 13) (.int .i64 (j : Int)) (by kernel_rfl) ?_
    refine wa_do (some 14) (.pointer (some ⟨b, o + j, none⟩)) (by kernel_rfl) (by kernel_rfl) (run_ix1 elII b o l.length c j rfl (by kernel_rfl) (by kernel_rfl) hjl) ?_
    refine wa_do (some 15) (.slice Ae x.length ce) (by kernel_rfl) (by kernel_rfl) (rl_is rfl (by kernel_rfl) (HB.cell hxc)) ?_
    refine wa_sy (some 16) (.bool zp) (by kernel_rfl) (by kernel_rfl) 63 #[.slice Ae x.length ce] (by kernel_rfl) (hpx ▸ IH x _ _ HB (hxe.keep HB)) ?_
    intro WD hb
    replace HB := HB.tr hb
    clear hb
    refine wa_nil ?_
    refine la_code ?_
    cases zp with
    | true =>
      have hfin : true = T := by rw [← hTj, any_drop hx, hpx]; rfl
      refine ca_true (by kernel_rfl) (by kernel_rfl) ?_
      refine ca_seq ?_
      refine ca_region ?_
      refine wa_q (some 17) (.int .i64 (j : Int)) (by kernel_rfl) ?_
      refine wa_q (some 4) (.int .i64 (j : Int)) (by kernel_rfl) ?_
      refine wa_nil ?_
      refine la_code ?_
      refine ca_ret ?_
      refine la_block_ret ?_
      refine la_then_ret ?_
      refine la_then_ret ?_
      refine la_block_ret ?_
      refine la_then_ret ?_
      refine la_ret1 4 (.int .i64 (j : Int)) rfl (by kernel_rfl) ?_
      exact ⟨_, rfl, by rw [← hfin]; exact decide_eq_true (by omega), HB⟩
    | false =>
      refine ca_false (by kernel_rfl) (by kernel_rfl) ?_
      refine ca_skip ?_
      refine la_block_normal ?_
      refine la_code ?_
      refine ca_region ?_
      refine wa_do (some 18) (.int .i64 ((j : Int) + 1)) (by kernel_rfl) (by kernel_rfl) (rb_add64 (k := (j : Int)) (l := 1) rfl (by kernel_rfl) (by kernel_rfl) (by omega) (by omega) rfl) ?_
      refine wa_q (some 8) (.int .i64 ((j : Int) + 1)) (by kernel_rfl) ?_
      refine wa_nil ?_
      refine la_meet (j + 1) [0, 1, 7, 8] (by kernel_rfl) ⟨⟨by omega, by rw [← hTj, any_drop hx, hpx]; rfl, HB⟩, by omega⟩
  | false =>
    have hq : (decide (((j : Int) : Int) < l.length)) = false := by rw [hzc1]
    simp only [sB] at hq
    have hfin : T = false := by rw [← hTj, List.drop_eq_nil_of_le (by omega)]; rfl
    refine ca_false (by kernel_rfl) (by kernel_rfl) ?_
    refine ca_exit ?_
    refine la_then_exit ?_
    refine la_then_exit ?_
    refine la_block_hit ?_
    refine la_code ?_
    refine ca_seq ?_
    refine ca_region ?_
    refine wa_q (some 4) (.int .i64 (-1)) (by kernel_rfl) ?_
    refine wa_nil ?_
    refine la_code ?_
    refine ca_ret ?_
    refine la_ret1 4 (.int .i64 (-1)) rfl (by kernel_rfl) ?_
    exact ⟨_, rfl, by rw [hfin]; decide, HB⟩
theorem contains_c2 (p : List Int → Bool) (l : List (List Int)) (v : Value) (w : World) (h : Sl intsR w v l) (IH : ∀ (x : List Int) (v : Value) (W : World), Bel w W → Sl intR W v x → Calls Try.prog 63 #[v] W fun r w' => r = .returned (.bool (p x)) ∧ Bel W w') :
    Calls Try.prog 62 #[v, .func (.func 63) #[] #[]] w fun r w' => r = .returned (.bool (l.any p)) ∧ Bel w w' := by
  have HB := Bel.rfl_ w
  obtain ⟨A, c, rfl, -⟩ := sl_lit h
  refine af_enter (c := _) (args := [.slice A l.length c, .func (.func 63) #[] #[]]) Try.func62 rfl Try.ntmps62 (by kernel_rfl) ?_
  refine ca_seq ?_
  refine ca_region ?_
  refine wa_q (some 4) (.bool false) (by kernel_rfl) ?_
  refine wa_nil ?_
  refine la_code ?_
  refine ca_seq ?_
  refine ca_region ?_
  refine wa_q (some 5) (.slice A l.length c) (by kernel_rfl) ?_
  refine wa_q (some 6) (.func (.func 63) #[] #[]) (by kernel_rfl) ?_
  refine wa_call (some 7) (by kernel_rfl) (by kernel_rfl) 109 #[.slice A l.length c, .func (.func 63) #[] #[]] (by kernel_rfl) (index_c2 p l _ _ h IH) ?_
  rintro r WD ⟨k, rfl, hk, hb⟩
  replace HB := HB.tr hb
  refine ⟨_, rfl, ?_⟩
  obtain ⟨zc1, hzc1⟩ : ∃ b : Bool, decide ((0 : Int) ≤ k) = b := ⟨_, rfl⟩
  refine wa_do (some 8) (.bool zc1) (by kernel_rfl) (by kernel_rfl) (rb_geqI (k := k) (l := 0) rfl (by kernel_rfl) (by kernel_rfl) hzc1) ?_
  refine wa_q (some 4) (.bool zc1) (by kernel_rfl) ?_
  refine wa_nil ?_
  refine la_code ?_
  refine ca_ret ?_
  refine la_ret1 4 (.bool zc1) rfl (by kernel_rfl) ?_
  exact ⟨by rw [← hk]; subst_vars; rfl, HB⟩
theorem firstOk_any (c : Cd) : (c.first.any fun x => !decide (0 ≤ x ∧ x ≤ (c.ins.length : Int) - 1)) = false ↔ FirstOk c := by
  rw [List.any_eq_false]
  unfold FirstOk
  simp
theorem sizesOk_any (c : Cd) : (c.sizes.any fun z => z.any fun y => !decide (0 ≤ y ∧ y ≤ 8)) = false ↔ SizesOk_ c := by
  unfold SizesOk_
  simp
set_option maxRecDepth 20000 in
theorem check_code (c : Cd) (v : Value) (w : World) (hcd : CodeR w v c) : Calls Try.prog 23 #[v] w fun r w' => r = .returned (.int .i64 (codeE c)) ∧ Bel w w' := by
  obtain ⟨vi, vf, vz, rfl, hs, hf, hz⟩ := hcd
  obtain ⟨Ai, ci, rfl, hli⟩ := sl_lit hs
  obtain ⟨Af, cf, rfl, hlf⟩ := sl_lit hf
  obtain ⟨Az, cz, rfl, hlz⟩ := sl_lit hz
  have HB1 : Bel w (w.alloc (.cells #[.slice Ai c.ins.length ci, .slice Af c.first.length cf, .slice Az c.sizes.length cz] CDT)) := (Bel.rfl_ w).al _
  have HC1 := Blk.new w CDT #[.slice Ai c.ins.length ci, .slice Af c.first.length cf, .slice Az c.sizes.length cz]
  obtain ⟨tf, htf⟩ : ∃ b, (c.first.any fun x => !decide (0 ≤ x ∧ x ≤ (c.ins.length : Int) - 1)) = b := ⟨_, rfl⟩
  obtain ⟨tz, htz⟩ : ∃ b, (c.sizes.any fun z => z.any fun y => !decide (0 ≤ y ∧ y ≤ 8)) = b := ⟨_, rfl⟩
  have hfo := firstOk_any c
  have hzo := sizesOk_any c
  rw [htf] at hfo
  rw [htz] at hzo
  refine af_enter (c := _) (args := [.agg #[.slice Ai c.ins.length ci, .slice Af c.first.length cf, .slice Az c.sizes.length cz]]) Try.func23 rfl Try.ntmps23 (by kernel_rfl) ?_
  refine ca_seq ?_
  refine ca_region ?_
  refine wa_w (some 1) (.pointer (some ⟨w.heap.size, 0, none⟩)) (w.alloc (.cells #[.slice Ai c.ins.length ci, .slice Af c.first.length cf, .slice Az c.sizes.length cz] CDT)) (by kernel_rfl) ?_
  generalize w.alloc (.cells #[.slice Ai c.ins.length ci, .slice Af c.first.length cf, .slice Az c.sizes.length cz] CDT) = W1 at *
  generalize w.heap.size = Q at *
  have HBC := HB1
  have HBK := Bel.rfl_ W1
  refine wa_q (some 2) (.int .i64 0) (by kernel_rfl) ?_
  refine wa_nil ?_
  refine la_code ?_
  refine ca_seq ?_
  refine ca_block ?_
  refine ca_seq ?_
  refine ca_region ?_
  refine wa_q (some 7) (.pointer (some ⟨Q, 0, none⟩)) (by kernel_rfl) ?_
  refine wa_do (some 8) (.slice Ai c.ins.length ci) (by kernel_rfl) (by kernel_rfl) (rl_ins rfl (by kernel_rfl) ((HC1.keep HBK).cell (i := 0) rfl)) ?_
  refine wa_q (some 9) (.int .i64 c.ins.length) (by kernel_rfl) ?_
  obtain ⟨zc1, hzc1⟩ : ∃ b : Bool, decide ((3000 : Int) < c.ins.length) = b := ⟨_, rfl⟩
  refine wa_do (some 10) (.bool zc1) (by kernel_rfl) (by kernel_rfl) (rb_gtrI (k := c.ins.length) (l := 3000) rfl (by kernel_rfl) (by kernel_rfl) hzc1) ?_
  refine wa_q (some 6) (.bool zc1) (by kernel_rfl) ?_
  refine wa_nil ?_
  refine la_code ?_
  cases zc1 with
  | true =>
    have hq : (decide ((3000 : Int) < c.ins.length)) = true := by rw [hzc1]
    simp only [sB] at hq
    have hfin := codeE_many (c := c) (by omega)
    refine ca_true (by kernel_rfl) (by kernel_rfl) ?_
    refine ca_seq ?_
    refine ca_region ?_
    refine wa_q (some 2) (.int .i64 2) (by kernel_rfl) ?_
    refine wa_nil ?_
    refine la_code ?_
    refine ca_ret ?_
    refine la_block_ret ?_
    refine la_then_ret ?_
    refine la_ret1 2 (.int .i64 2) rfl (by kernel_rfl) ?_
    exact ⟨by rw [hfin], HBC⟩
  | false =>
    have hq : (decide ((3000 : Int) < c.ins.length)) = false := by rw [hzc1]
    simp only [sB] at hq
    have h3000 : ¬ 3000 < c.ins.length := by omega
    refine ca_false (by kernel_rfl) (by kernel_rfl) ?_
    refine ca_seq ?_
    refine ca_region ?_
    refine wa_q (some 12) (.pointer (some ⟨Q, 1, none⟩)) (by kernel_rfl) ?_
    refine wa_do (some 13) (.slice Af c.first.length cf) (by kernel_rfl) (by kernel_rfl) (rl_is rfl (by kernel_rfl) ((HC1.keep HBK).cell (i := 1) rfl)) ?_
    refine wa_q (some 14) (.int .i64 c.first.length) (by kernel_rfl) ?_
    obtain ⟨zc2, hzc2⟩ : ∃ b : Bool, ((c.first.length : Int) == 0) = b := ⟨_, rfl⟩
    refine wa_do (some 15) (.bool zc2) (by kernel_rfl) (by kernel_rfl) (rb_eqlI (k := c.first.length) (l := 0) rfl (by kernel_rfl) (by kernel_rfl) hzc2) ?_
    refine wa_q (some 16) (.bool zc2) (by kernel_rfl) ?_
    obtain ⟨zg3, hzg3⟩ : ∃ b : Bool, b = (!zc2) := ⟨_, rfl⟩
    refine wa_if (some 17) zg3 (.pointer (some ⟨Q, 1, none⟩)) (by kernel_rfl) (by kernel_rfl) (by subst hzg3; cases zc2 <;> kernel_rfl) (fun hG => by subst hzg3; obtain rfl : zc2 = false := (by revert hG; cases zc2 <;> simp); kernel_rfl) ?_
    refine wa_if (some 18) zg3 (.slice Af c.first.length cf) (by kernel_rfl) (by kernel_rfl) (by subst hzg3; cases zc2 <;> kernel_rfl) (fun hG => by subst hzg3; obtain rfl : zc2 = false := (by revert hG; cases zc2 <;> simp); exact rl_is rfl (by kernel_rfl) ((HC1.keep HBK).cell (i := 1) rfl)) ?_
    refine wa_if (some 19) zg3 (.int .i64 c.first.length) (by kernel_rfl) (by kernel_rfl) (by subst hzg3; cases zc2 <;> kernel_rfl) (fun hG => by subst hzg3; obtain rfl : zc2 = false := (by revert hG; cases zc2 <;> simp); kernel_rfl) ?_
    refine wa_if (some 20) zg3 (.pointer (some ⟨Q, 2, none⟩)) (by kernel_rfl) (by kernel_rfl) (by subst hzg3; cases zc2 <;> kernel_rfl) (fun hG => by subst hzg3; obtain rfl : zc2 = false := (by revert hG; cases zc2 <;> simp); kernel_rfl) ?_
    refine wa_if (some 21) zg3 (.slice Az c.sizes.length cz) (by kernel_rfl) (by kernel_rfl) (by subst hzg3; cases zc2 <;> kernel_rfl) (fun hG => by subst hzg3; obtain rfl : zc2 = false := (by revert hG; cases zc2 <;> simp); exact rl_vvM rfl (by kernel_rfl) ((HC1.keep HBK).cell (i := 2) rfl)) ?_
    refine wa_if (some 22) zg3 (.int .i64 c.sizes.length) (by kernel_rfl) (by kernel_rfl) (by subst hzg3; cases zc2 <;> kernel_rfl) (fun hG => by subst hzg3; obtain rfl : zc2 = false := (by revert hG; cases zc2 <;> simp); kernel_rfl) ?_
    obtain ⟨zc4, hzc4⟩ : ∃ b : Bool, ((c.first.length : Int) != c.sizes.length) = b := ⟨_, rfl⟩
    refine wa_if (some 23) zg3 (.bool zc4) (by kernel_rfl) (by kernel_rfl) (by subst hzg3; cases zc2 <;> kernel_rfl) (fun hG => by subst hzg3; obtain rfl : zc2 = false := (by revert hG; cases zc2 <;> simp); exact rb_neqI (k := c.first.length) (l := c.sizes.length) rfl (by kernel_rfl) (by kernel_rfl) hzc4) ?_
    obtain ⟨zr5, hzr5⟩ : ∃ b : Bool, (zc2 || zc4) = b := ⟨_, rfl⟩
    refine wa_do (some 24) (.bool zr5) (by kernel_rfl) (by kernel_rfl) (by subst hzr5; cases zc2 <;> (subst hzg3; kernel_rfl)) ?_
    refine wa_q (some 11) (.bool zr5) (by kernel_rfl) ?_
    refine wa_nil ?_
    refine la_code ?_
    cases zr5 with
    | true =>
      have hq2 : ((((c.first.length : Int) == 0)) || (((c.first.length : Int) != c.sizes.length))) = true := by rw [hzc2, hzc4, hzr5]
      simp only [sB] at hq2
      have hfin := codeE_form (c := c) h3000 hq2
      refine ca_true (by kernel_rfl) (by kernel_rfl) ?_
      refine ca_seq ?_
      refine ca_region ?_
      refine wa_q (some 2) (.int .i64 1) (by kernel_rfl) ?_
      refine wa_nil ?_
      refine la_code ?_
      refine ca_ret ?_
      refine la_block_ret ?_
      refine la_then_ret ?_
      refine la_ret1 2 (.int .i64 1) rfl (by kernel_rfl) ?_
      exact ⟨by rw [hfin], HBC⟩
    | false =>
      have hq2 : ((((c.first.length : Int) == 0)) || (((c.first.length : Int) != c.sizes.length))) = false := by rw [hzc2, hzc4, hzr5]
      simp only [sB] at hq2
      have hform : ¬ ((c.first.length : Int) = 0 ∨ ¬ (c.first.length : Int) = c.sizes.length) := by omega
      refine ca_false (by kernel_rfl) (by kernel_rfl) ?_
      refine ca_seq ?_
      refine ca_region ?_
      refine wa_q (some 26) (.pointer (some ⟨Q, 1, none⟩)) (by kernel_rfl) ?_
      refine wa_do (some 27) (.slice Af c.first.length cf) (by kernel_rfl) (by kernel_rfl) (rl_is rfl (by kernel_rfl) ((HC1.keep HBK).cell (i := 1) rfl)) ?_
      refine wa_q (some 28) (.func (.func 60) #[] #[.pointer (some ⟨Q, 0, none⟩)]) (by kernel_rfl) ?_
      refine wa_sy (some 29) (.bool tf) (by kernel_rfl) (by kernel_rfl) 59 #[.slice Af c.first.length cf, .func (.func 60) #[] #[.pointer (some ⟨Q, 0, none⟩)]] (by kernel_rfl) (htf ▸ contains_c1 Q _ c.first _ _ (hf.keep HBC) (fun y W hb => check1_any c Q Ai ci _ _ hli y W ((HC1.keep HBK).keep hb))) ?_
      intro WD hb
      replace HBC := HBC.tr hb
      replace HBK := HBK.tr hb
      clear hb
      refine wa_q (some 25) (.bool tf) (by kernel_rfl) ?_
      refine wa_nil ?_
      refine la_code ?_
      cases tf with
      | true =>
        have hfin := codeE_range h3000 hform (fun hh => by have := hfo.2 hh.1; simp at this)
        refine ca_true (by kernel_rfl) (by kernel_rfl) ?_
        refine ca_seq ?_
        refine ca_region ?_
        refine wa_q (some 2) (.int .i64 3) (by kernel_rfl) ?_
        refine wa_nil ?_
        refine la_code ?_
        refine ca_ret ?_
        refine la_block_ret ?_
        refine la_then_ret ?_
        refine la_ret1 2 (.int .i64 3) rfl (by kernel_rfl) ?_
        exact ⟨by rw [hfin], HBC⟩
      | false =>
        have hF := hfo.1 rfl
        refine ca_false (by kernel_rfl) (by kernel_rfl) ?_
        refine ca_seq ?_
        refine ca_region ?_
        refine wa_q (some 31) (.pointer (some ⟨Q, 2, none⟩)) (by kernel_rfl) ?_
        refine wa_do (some 32) (.slice Az c.sizes.length cz) (by kernel_rfl) (by kernel_rfl) (rl_vvM rfl (by kernel_rfl) ((HC1.keep HBK).cell (i := 2) rfl)) ?_
        refine wa_sy (some 33) (.bool tz) (by kernel_rfl) (by kernel_rfl) 62 #[.slice Az c.sizes.length cz, .func (.func 63) #[] #[]] (by kernel_rfl) (htz ▸ contains_c2 _ c.sizes _ _ (hz.keep HBC) (fun y v W _ hs => check2_any y v W hs)) ?_
        intro WD hb
        replace HBC := HBC.tr hb
        replace HBK := HBK.tr hb
        clear hb
        refine wa_q (some 30) (.bool tz) (by kernel_rfl) ?_
        refine wa_nil ?_
        refine la_code ?_
        cases tz with
        | true =>
          have hfin := codeE_range h3000 hform (fun hh => by have := hzo.2 hh.2; simp at this)
          refine ca_true (by kernel_rfl) (by kernel_rfl) ?_
          refine ca_seq ?_
          refine ca_region ?_
          refine wa_q (some 2) (.int .i64 3) (by kernel_rfl) ?_
          refine wa_nil ?_
          refine la_code ?_
          refine ca_ret ?_
          refine la_block_ret ?_
          refine la_then_ret ?_
          refine la_ret1 2 (.int .i64 3) rfl (by kernel_rfl) ?_
          exact ⟨by rw [hfin], HBC⟩
        | false =>
          have hins := codeE_ins h3000 hform ⟨hF, hzo.1 rfl⟩
          obtain ⟨T, hT⟩ : ∃ T, insEs c c.ins = T := ⟨_, rfl⟩
          have hT0 : insEs c (c.ins.drop 0) = T := hT
          rw [hT] at hins
          refine ca_false (by kernel_rfl) (by kernel_rfl) ?_
          refine ca_skip ?_
          refine la_block_normal ?_
          refine la_code ?_
          refine ca_seq ?_
          refine ca_seq ?_
          refine ca_region ?_
          refine wa_q (some 34) (.pointer (some ⟨Q, 0, none⟩)) (by kernel_rfl) ?_
          refine wa_do (some 35) (.slice Ai c.ins.length ci) (by kernel_rfl) (by kernel_rfl) (rl_ins rfl (by kernel_rfl) ((HC1.keep HBK).cell (i := 0) rfl)) ?_
          refine wa_q (some 36) (.int .i64 c.ins.length) (by kernel_rfl) ?_
          refine wa_q (some 37) (.int .i64 0) (by kernel_rfl) ?_
          refine wa_nil ?_
          refine la_code ?_
          refine ca_block ?_
          refine ca_loop (α := Nat) (fun j W => j ≤ c.ins.length ∧ insEs c (c.ins.drop j) = T ∧ Bel W1 W) (fun j => [(1, .pointer (some ⟨Q, 0, none⟩)), (35, .slice Ai c.ins.length ci), (36, .int .i64 c.ins.length), (37, .int .i64 (j : Int))]) (fun j => c.ins.length - j) 0 [1, 35, 36, 37] (by kernel_rfl) ⟨Nat.zero_le _, hT0, HBK⟩ ?_
          clear HBC HBK hT0
          rintro j WC ⟨hj, hTj, HBK⟩
          have HBC := HB1.tr HBK
          refine ca_seq ?_
          refine ca_region ?_
          obtain ⟨zc6, hzc6⟩ : ∃ b : Bool, decide (((j : Int) : Int) < c.ins.length) = b := ⟨_, rfl⟩
          refine wa_do (some 38) (.bool zc6) (by kernel_rfl) (by kernel_rfl) (rb_lssI (k := (j : Int)) (l := c.ins.length) rfl (by kernel_rfl) (by kernel_rfl) hzc6) ?_
          refine wa_nil ?_
          refine la_code ?_
          refine ca_seq ?_
          cases zc6 with
          | true =>
            have hq7 : (decide (((j : Int) : Int) < c.ins.length)) = true := by rw [hzc6]
            simp only [sB] at hq7
            have hjl : j < c.ins.length := by omega
            obtain ⟨x, hx⟩ : ∃ x, c.ins[j]? = some x := ⟨_, List.getElem?_eq_getElem hjl⟩
            obtain ⟨b, f, cs, rfl, HCS, hca⟩ := hs.elem hx
            obtain rfl : cs = x.cells := HCS
            have hTd := insEs_drop (c := c) hx
            obtain ⟨ia, hia⟩ : ∃ b, insA c x = b := ⟨_, rfl⟩
            refine ca_true (by kernel_rfl) (by kernel_rfl) ?_
            refine ca_skip ?_
            refine la_code ?_
            refine ca_seq ?_
            refine ca_block ?_
            refine ca_seq ?_
            refine ca_region ?_
            refine wa_do (some 39) (.pointer (some ⟨b, f + j * 3, none⟩)) (by kernel_rfl) (by kernel_rfl) (run_ix elIN b f c.ins.length ci j rfl (by kernel_rfl) (by kernel_rfl) hjl) ?_
            refine wa_copy INS (.tmp 39) 40 4 ⟨rfl, rfl, rfl⟩ ⟨rfl, rfl, rfl⟩ ⟨rfl, rfl, rfl⟩ (by kernel_rfl) b (f + j * 3) (by kernel_rfl) (by kernel_rfl) [.int .i64 x.kind, .int .i64 x.a, .int .i64 x.b] (fun i u hu => Bel.cell HBC (hca i u hu)) elIN (by kernel_rfl) rfl (ins_one x) ?_
            have HX := Blk.new WC INS #[.int .i64 x.kind, .int .i64 x.a, .int .i64 x.b]
            replace HBC := HBC.al (.cells #[.int .i64 x.kind, .int .i64 x.a, .int .i64 x.b] INS)
            replace HBK := HBK.al (.cells #[.int .i64 x.kind, .int .i64 x.a, .int .i64 x.b] INS)
            generalize WC.alloc (.cells #[.int .i64 x.kind, .int .i64 x.a, .int .i64 x.b] INS) = W5 at *
            generalize WC.heap.size = xb at *
            have HBX := Bel.rfl_ W5
            refine wa_nil ?_
            refine la_code ?_
            refine ca_seq ?_
            refine ca_region ?_
            refine wa_q (some 41) (.pointer (some ⟨xb, 0, none⟩)) (by kernel_rfl) ?_
            refine wa_do (some 42) (.int .i64 x.kind) (by kernel_rfl) (by kernel_rfl) (rl_int rfl (by kernel_rfl) ((HX.keep HBX).cell (i := 0) rfl)) ?_
            obtain ⟨zc7, hzc7⟩ : ∃ b : Bool, ((x.kind : Int) == 9) = b := ⟨_, rfl⟩
            refine wa_do (some 43) (.bool zc7) (by kernel_rfl) (by kernel_rfl) (rb_eqlI (k := x.kind) (l := 9) rfl (by kernel_rfl) (by kernel_rfl) hzc7) ?_
            refine wa_q (some 44) (.bool zc7) (by kernel_rfl) ?_
            obtain ⟨zg8, hzg8⟩ : ∃ b : Bool, b = (!zc7) := ⟨_, rfl⟩
            refine wa_if (some 45) zg8 (.pointer (some ⟨xb, 0, none⟩)) (by kernel_rfl) (by kernel_rfl) (by subst hzg8; cases zc7 <;> kernel_rfl) (fun hG => by subst hzg8; obtain rfl : zc7 = false := (by revert hG; cases zc7 <;> simp); kernel_rfl) ?_
            refine wa_if (some 46) zg8 (.int .i64 x.kind) (by kernel_rfl) (by kernel_rfl) (by subst hzg8; cases zc7 <;> kernel_rfl) (fun hG => by subst hzg8; obtain rfl : zc7 = false := (by revert hG; cases zc7 <;> simp); exact rl_int rfl (by kernel_rfl) ((HX.keep HBX).cell (i := 0) rfl)) ?_
            obtain ⟨zc9, hzc9⟩ : ∃ b : Bool, ((x.kind : Int) == 13) = b := ⟨_, rfl⟩
            refine wa_if (some 47) zg8 (.bool zc9) (by kernel_rfl) (by kernel_rfl) (by subst hzg8; cases zc7 <;> kernel_rfl) (fun hG => by subst hzg8; obtain rfl : zc7 = false := (by revert hG; cases zc7 <;> simp); exact rb_eqlI (k := x.kind) (l := 13) rfl (by kernel_rfl) (by kernel_rfl) hzc9) ?_
            obtain ⟨zr10, hzr10⟩ : ∃ b : Bool, (zc7 || zc9) = b := ⟨_, rfl⟩
            refine wa_do (some 48) (.bool zr10) (by kernel_rfl) (by kernel_rfl) (by subst hzr10; cases zc7 <;> (subst hzg8; kernel_rfl)) ?_
            refine wa_q (some 49) (.bool zr10) (by kernel_rfl) ?_
            obtain ⟨zg11, hzg11⟩ : ∃ b : Bool, b = (!zr10) := ⟨_, rfl⟩
            refine wa_if (some 50) zg11 (.pointer (some ⟨xb, 0, none⟩)) (by kernel_rfl) (by kernel_rfl) (by subst hzg11; cases zr10 <;> kernel_rfl) (fun hG => by subst hzg11; obtain rfl : zr10 = false := (by revert hG; cases zr10 <;> simp); kernel_rfl) ?_
            refine wa_if (some 51) zg11 (.int .i64 x.kind) (by kernel_rfl) (by kernel_rfl) (by subst hzg11; cases zr10 <;> kernel_rfl) (fun hG => by subst hzg11; obtain rfl : zr10 = false := (by revert hG; cases zr10 <;> simp); exact rl_int rfl (by kernel_rfl) ((HX.keep HBX).cell (i := 0) rfl)) ?_
            obtain ⟨zc12, hzc12⟩ : ∃ b : Bool, ((x.kind : Int) == 14) = b := ⟨_, rfl⟩
            refine wa_if (some 52) zg11 (.bool zc12) (by kernel_rfl) (by kernel_rfl) (by subst hzg11; cases zr10 <;> kernel_rfl) (fun hG => by subst hzg11; obtain rfl : zr10 = false := (by revert hG; cases zr10 <;> simp); exact rb_eqlI (k := x.kind) (l := 14) rfl (by kernel_rfl) (by kernel_rfl) hzc12) ?_
            obtain ⟨zr13, hzr13⟩ : ∃ b : Bool, (zr10 || zc12) = b := ⟨_, rfl⟩
            refine wa_do (some 53) (.bool zr13) (by kernel_rfl) (by kernel_rfl) (by subst hzr13; cases zr10 <;> (subst hzg11; kernel_rfl)) ?_
            refine wa_q (some 5) (.bool zr13) (by kernel_rfl) ?_
            refine wa_nil ?_
            refine la_code ?_
            refine ca_block ?_
            refine ca_seq ?_
            refine ca_region ?_
            refine wa_q (some 55) (.pointer (some ⟨xb, 0, none⟩)) (by kernel_rfl) ?_
            refine wa_do (some 56) (.int .i64 x.kind) (by kernel_rfl) (by kernel_rfl) (rl_int rfl (by kernel_rfl) ((HX.keep HBX).cell (i := 0) rfl)) ?_
            obtain ⟨zw8, hzw8⟩ : ∃ b : Bool, decide ((1 : Int) ≤ x.kind ∧ x.kind ≤ 14) = b := ⟨_, rfl⟩
            refine wa_sy (some 57) (.bool zw8) (by kernel_rfl) (by kernel_rfl) 61 #[.int .i64 x.kind, .int .i64 1, .int .i64 14] (by kernel_rfl) (keepWi hzw8) ?_
            intro WD hb
            replace HBC := HBC.tr hb
            replace HBK := HBK.tr hb
            replace HBX := HBX.tr hb
            clear hb
            obtain ⟨zr14, hzr14⟩ : ∃ b : Bool, (!zw8) = b := ⟨_, rfl⟩
            refine wa_do (some 58) (.bool zr14) (by kernel_rfl) (by kernel_rfl) (by subst hzr14; kernel_rfl) ?_
            refine wa_q (some 54) (.bool zr14) (by kernel_rfl) ?_
            refine wa_nil ?_
            refine la_code ?_
            cases zr14 with
            | true =>
              have hq8 : (!(decide ((1 : Int) ≤ x.kind ∧ x.kind ≤ 14))) = true := by rw [hzw8, hzr14]
              simp only [sB] at hq8
              have hEx : insE c x = 7 := by unfold insE; rw [if_pos (by omega)]
              have hfin : codeE c = 7 := by rw [hins, ← hTj, hTd, if_pos (by rw [hEx]; decide), hEx]
              refine ca_true (by kernel_rfl) (by kernel_rfl) ?_
              refine ca_seq ?_
              refine ca_region ?_
              refine wa_q (some 2) (.int .i64 7) (by kernel_rfl) ?_
              refine wa_nil ?_
              refine la_code ?_
              refine ca_ret ?_
              refine la_block_ret ?_
              refine la_block_ret ?_
              refine la_then_ret ?_
              refine la_then_ret ?_
              refine la_block_ret ?_
              refine la_then_ret ?_
              refine la_ret1 2 (.int .i64 7) rfl (by kernel_rfl) ?_
              exact ⟨by rw [hfin], HBC⟩
            | false =>
              have hq8 : (!(decide ((1 : Int) ≤ x.kind ∧ x.kind ≤ 14))) = false := by rw [hzw8, hzr14]
              simp only [sB] at hq8
              have hkk : ¬ ¬ (1 ≤ x.kind ∧ x.kind ≤ 14) := by omega
              refine ca_false (by kernel_rfl) (by kernel_rfl) ?_
              refine ca_seq ?_
              refine ca_region ?_
              refine wa_do (some 60) (.agg #[.slice (some ⟨b, f, none⟩) c.ins.length ci, .slice Af c.first.length cf, .slice Az c.sizes.length cz]) (by kernel_rfl) (by kernel_rfl) (rl_cd rfl (by kernel_rfl) (blkRange (HC1.keep HBK) 0 rfl)) ?_
              refine wa_do (some 61) (.agg #[.int .i64 x.kind, .int .i64 x.a, .int .i64 x.b]) (by kernel_rfl) (by kernel_rfl) (run_loadRow INS (.tmp 4) rfl elIN xb 0 (by kernel_rfl) [.int .i64 x.kind, .int .i64 x.a, .int .i64 x.b] (blkRange (HX.keep HBX) 0 rfl) rfl (by kernel_rfl)) ?_
              refine wa_sy (some 62) (.bool ia) (by kernel_rfl) (by kernel_rfl) 65 #[.agg #[.slice (some ⟨b, f, none⟩) c.ins.length ci, .slice Af c.first.length cf, .slice Az c.sizes.length cz], .agg #[.int .i64 x.kind, .int .i64 x.a, .int .i64 x.b]] (by kernel_rfl) (hia ▸ codeA_any c x _ _ ⟨_, _, _, rfl, hs.keep HBC, hf.keep HBC, hz.keep HBC⟩) ?_
              intro WD hb
              replace HBC := HBC.tr hb
              replace HBK := HBK.tr hb
              replace HBX := HBX.tr hb
              clear hb
              obtain ⟨zr15, hzr15⟩ : ∃ b : Bool, (!ia) = b := ⟨_, rfl⟩
              refine wa_do (some 63) (.bool zr15) (by kernel_rfl) (by kernel_rfl) (by subst hzr15; kernel_rfl) ?_
              refine wa_q (some 59) (.bool zr15) (by kernel_rfl) ?_
              refine wa_nil ?_
              refine la_code ?_
              cases zr15 with
              | true =>
                have hi2 : ia = false := by cases ia <;> simp_all
                have hEx : insE c x = 3 := by unfold insE; rw [if_neg hkk, if_pos (by rw [hia, hi2])]
                have hfin : codeE c = 3 := by rw [hins, ← hTj, hTd, if_pos (by rw [hEx]; decide), hEx]
                refine ca_true (by kernel_rfl) (by kernel_rfl) ?_
                refine ca_seq ?_
                refine ca_region ?_
                refine wa_q (some 2) (.int .i64 3) (by kernel_rfl) ?_
                refine wa_nil ?_
                refine la_code ?_
                refine ca_ret ?_
                refine la_block_ret ?_
                refine la_block_ret ?_
                refine la_then_ret ?_
                refine la_then_ret ?_
                refine la_block_ret ?_
                refine la_then_ret ?_
                refine la_ret1 2 (.int .i64 3) rfl (by kernel_rfl) ?_
                exact ⟨by rw [hfin], HBC⟩
              | false =>
                have hi2 : ia = true := by cases ia <;> simp_all
                refine ca_false (by kernel_rfl) (by kernel_rfl) ?_
                refine ca_seq ?_
                refine ca_region ?_
                refine wa_q (some 65) (.bool zr13) (by kernel_rfl) ?_
                refine wa_q (some 66) (.bool zr13) (by kernel_rfl) ?_
                refine wa_if (some 67) zr13 (.pointer (some ⟨xb, 1, none⟩)) (by kernel_rfl) (by kernel_rfl) (by cases zr13 <;> kernel_rfl) (fun hG => by subst hG; kernel_rfl) ?_
                refine wa_if (some 68) zr13 (.int .i64 x.a) (by kernel_rfl) (by kernel_rfl) (by cases zr13 <;> kernel_rfl) (fun hG => by subst hG; exact rl_int rfl (by kernel_rfl) ((HX.keep HBX).cell (i := 1) rfl)) ?_
                obtain ⟨zc16, hzc16⟩ : ∃ b : Bool, ((x.a : Int) != 0) = b := ⟨_, rfl⟩
                refine wa_if (some 69) zr13 (.bool zc16) (by kernel_rfl) (by kernel_rfl) (by cases zr13 <;> kernel_rfl) (fun hG => by subst hG; exact rb_neqI (k := x.a) (l := 0) rfl (by kernel_rfl) (by kernel_rfl) hzc16) ?_
                obtain ⟨zr17, hzr17⟩ : ∃ b : Bool, (zr13 && zc16) = b := ⟨_, rfl⟩
                refine wa_do (some 70) (.bool zr17) (by kernel_rfl) (by kernel_rfl) (by subst hzr17; cases zr13 <;> (kernel_rfl)) ?_
                refine wa_q (some 71) (.bool zr17) (by kernel_rfl) ?_
                obtain ⟨zg18, hzg18⟩ : ∃ b : Bool, b = (!zr17) := ⟨_, rfl⟩
                refine wa_if (some 72) zg18 (.pointer (some ⟨xb, 0, none⟩)) (by kernel_rfl) (by kernel_rfl) (by subst hzg18; cases zr17 <;> kernel_rfl) (fun hG => by subst hzg18; obtain rfl : zr17 = false := (by revert hG; cases zr17 <;> simp); kernel_rfl) ?_
                refine wa_if (some 73) zg18 (.int .i64 x.kind) (by kernel_rfl) (by kernel_rfl) (by subst hzg18; cases zr17 <;> kernel_rfl) (fun hG => by subst hzg18; obtain rfl : zr17 = false := (by revert hG; cases zr17 <;> simp); exact rl_int rfl (by kernel_rfl) ((HX.keep HBX).cell (i := 0) rfl)) ?_
                obtain ⟨zc19, hzc19⟩ : ∃ b : Bool, ((x.kind : Int) != 12) = b := ⟨_, rfl⟩
                refine wa_if (some 74) zg18 (.bool zc19) (by kernel_rfl) (by kernel_rfl) (by subst hzg18; cases zr17 <;> kernel_rfl) (fun hG => by subst hzg18; obtain rfl : zr17 = false := (by revert hG; cases zr17 <;> simp); exact rb_neqI (k := x.kind) (l := 12) rfl (by kernel_rfl) (by kernel_rfl) hzc19) ?_
                refine wa_if (some 75) zg18 (.bool zc19) (by kernel_rfl) (by kernel_rfl) (by subst hzg18; cases zr17 <;> kernel_rfl) (fun hG => by subst hzg18; obtain rfl : zr17 = false := (by revert hG; cases zr17 <;> simp); kernel_rfl) ?_
                obtain ⟨zg20, hzg20⟩ : ∃ b : Bool, b = (zg18 && zc19) := ⟨_, rfl⟩
                refine wa_if (some 76) zg20 (.pointer (some ⟨xb, 2, none⟩)) (by kernel_rfl) (by kernel_rfl) (by subst hzg20; cases zg18 <;> cases zc19 <;> kernel_rfl) (fun hG => by subst hzg20; obtain ⟨hq1, hq2⟩ : zg18 = true ∧ zc19 = true := (by revert hG; cases zg18 <;> cases zc19 <;> simp); subst hq2; subst hzg18; obtain rfl : zr17 = false := (by revert hq1; cases zr17 <;> simp); kernel_rfl) ?_
                refine wa_if (some 77) zg20 (.int .i64 x.b) (by kernel_rfl) (by kernel_rfl) (by subst hzg20; cases zg18 <;> cases zc19 <;> kernel_rfl) (fun hG => by subst hzg20; obtain ⟨hq1, hq2⟩ : zg18 = true ∧ zc19 = true := (by revert hG; cases zg18 <;> cases zc19 <;> simp); subst hq2; subst hzg18; obtain rfl : zr17 = false := (by revert hq1; cases zr17 <;> simp); exact rl_int rfl (by kernel_rfl) ((HX.keep HBX).cell (i := 2) rfl)) ?_
                obtain ⟨zc21, hzc21⟩ : ∃ b : Bool, ((x.b : Int) != 0) = b := ⟨_, rfl⟩
                refine wa_if (some 78) zg20 (.bool zc21) (by kernel_rfl) (by kernel_rfl) (by subst hzg20; cases zg18 <;> cases zc19 <;> kernel_rfl) (fun hG => by subst hzg20; obtain ⟨hq1, hq2⟩ : zg18 = true ∧ zc19 = true := (by revert hG; cases zg18 <;> cases zc19 <;> simp); subst hq2; subst hzg18; obtain rfl : zr17 = false := (by revert hq1; cases zr17 <;> simp); exact rb_neqI (k := x.b) (l := 0) rfl (by kernel_rfl) (by kernel_rfl) hzc21) ?_
                obtain ⟨zr22, hzr22⟩ : ∃ b : Bool, (zc19 && zc21) = b := ⟨_, rfl⟩
                refine wa_if (some 79) zg18 (.bool zr22) (by kernel_rfl) (by kernel_rfl) (by subst hzg18; cases zr17 <;> kernel_rfl) (fun hG => by subst hzr22; cases zc19 <;> (subst hzg18; obtain rfl : zr17 = false := (by revert hG; cases zr17 <;> simp); subst hzg20; kernel_rfl)) ?_
                obtain ⟨zr23, hzr23⟩ : ∃ b : Bool, (zr17 || zr22) = b := ⟨_, rfl⟩
                refine wa_do (some 80) (.bool zr23) (by kernel_rfl) (by kernel_rfl) (by subst hzr23; cases zr17 <;> (subst hzg18; kernel_rfl)) ?_
                refine wa_q (some 64) (.bool zr23) (by kernel_rfl) ?_
                refine wa_nil ?_
                refine la_code ?_
                cases zr23 with
                | true =>
                  have hq9 : (((((((x.kind : Int) == 9)) || (((x.kind : Int) == 13))) || (((x.kind : Int) == 14))) && (((x.a : Int) != 0))) || ((((x.kind : Int) != 12)) && (((x.b : Int) != 0)))) = true := by rw [hzc7, hzc9, hzr10, hzc12, hzr13, hzc16, hzr17, hzc19, hzc21, hzr22, hzr23]
                  simp only [sB] at hq9
                  have hEx : insE c x = 1 := by unfold insE; rw [if_neg hkk, if_neg (by rw [hia, hi2]; decide), if_pos (by omega)]
                  have hfin : codeE c = 1 := by rw [hins, ← hTj, hTd, if_pos (by rw [hEx]; decide), hEx]
                  refine ca_true (by kernel_rfl) (by kernel_rfl) ?_
                  refine ca_seq ?_
                  refine ca_region ?_
                  refine wa_q (some 2) (.int .i64 1) (by kernel_rfl) ?_
                  refine wa_nil ?_
                  refine la_code ?_
                  refine ca_ret ?_
                  refine la_block_ret ?_
                  refine la_block_ret ?_
                  refine la_then_ret ?_
                  refine la_then_ret ?_
                  refine la_block_ret ?_
                  refine la_then_ret ?_
                  refine la_ret1 2 (.int .i64 1) rfl (by kernel_rfl) ?_
                  exact ⟨by rw [hfin], HBC⟩
                | false =>
                  have hq9 : (((((((x.kind : Int) == 9)) || (((x.kind : Int) == 13))) || (((x.kind : Int) == 14))) && (((x.a : Int) != 0))) || ((((x.kind : Int) != 12)) && (((x.b : Int) != 0)))) = false := by rw [hzc7, hzc9, hzr10, hzc12, hzr13, hzc16, hzr17, hzc19, hzc21, hzr22, hzr23]
                  simp only [sB] at hq9
                  have hE0 : insE c x = 0 := by unfold insE; rw [if_neg hkk, if_neg (by rw [hia, hi2]; decide), if_neg (by omega)]
                  refine ca_false (by kernel_rfl) (by kernel_rfl) ?_
                  refine ca_skip ?_
                  refine la_block_normal ?_
                  refine la_block_normal ?_
                  refine la_code ?_
                  refine ca_region ?_
                  refine wa_do (some 81) (.int .i64 ((j : Int) + 1)) (by kernel_rfl) (by kernel_rfl) (rb_add64 (k := (j : Int)) (l := 1) rfl (by kernel_rfl) (by kernel_rfl) (by omega) (by omega) rfl) ?_
                  refine wa_q (some 37) (.int .i64 ((j : Int) + 1)) (by kernel_rfl) ?_
                  refine wa_nil ?_
                  refine la_meet (j + 1) [1, 35, 36, 37] (by kernel_rfl) ⟨⟨by omega, by rw [← hTj, hTd, if_neg (by rw [hE0]; omega)], HBK⟩, by omega⟩
          | false =>
            have hq7 : (decide (((j : Int) : Int) < c.ins.length)) = false := by rw [hzc6]
            simp only [sB] at hq7
            have hT2 : T = 0 := by rw [← hTj, List.drop_eq_nil_of_le (by omega)]; rfl
            have hfin : codeE c = 0 := by rw [hins, hT2]
            refine ca_false (by kernel_rfl) (by kernel_rfl) ?_
            refine ca_exit ?_
            refine la_then_exit ?_
            refine la_then_exit ?_
            refine la_block_hit ?_
            refine la_code ?_
            refine ca_seq ?_
            refine ca_region ?_
            refine wa_q (some 2) (.int .i64 0) (by kernel_rfl) ?_
            refine wa_nil ?_
            refine la_code ?_
            refine ca_ret ?_
            refine la_ret1 2 (.int .i64 0) rfl (by kernel_rfl) ?_
            exact ⟨by rw [hfin], HBC⟩
end Go.Proofs.Ytgkpplbomciehaa
