/- The beginning of a trace, as the document asks for it: walked; TraceRight. Each lemma states its own conditions. -/
import Derived.Test.YtgkpplbomciehaaTrr43
import Derived.Test.YtgkpplbomciehaaTrr44
import Derived.Test.YtgkpplbomciehaaTrr28
import Derived.Test.YtgkpplbomciehaaTrr46
import Derived.Test.YtgkpplbomciehaaTrr45
import Derived.Test.YtgkpplbomciehaaTrr48
namespace Go.Proofs.Ytgkpplbomciehaa
open Go.RowKit
section
variable {o : Oper} {ρ : Operand → Value} {W : World} {x y : Operand} {A : Option Addr} {n c : Nat} {j : Int}
theorem rs_cutV (ho : o.op = .slice 27 x none (some y) none) (hx : ρ x = .slice A n c) (hy : ρ y = .int .i64 j) (h0 : 0 ≤ j) (h1 : j ≤ c) : (execOp ρ o).run Try.prog W = .ok (.value (.slice A j.toNat c)) W := by
  have e0 : ∀ a : Addr, a.add 0 = a := fun a => by simp [Addr.add]
  by_cases hc : c = 0
  · subst hc
    obtain rfl : j = 0 := by omega
    cases A <;> simp [execOp, ho, hx, hy, go_sem]
  · cases A <;> simp [execOp, ho, hx, hy, go_sem, h0, h1, hc, e0]
theorem rs_cutI (ho : o.op = .slice 23 x none (some y) none) (hx : ρ x = .slice A n c) (hy : ρ y = .int .i64 j) (h0 : 0 ≤ j) (h1 : j ≤ c) : (execOp ρ o).run Try.prog W = .ok (.value (.slice A j.toNat c)) W := by
  have e0 : ∀ a : Addr, a.add 0 = a := fun a => by simp [Addr.add]
  by_cases hc : c = 0
  · subst hc
    obtain rfl : j = 0 := by omega
    cases A <;> simp [execOp, ho, hx, hy, go_sem]
  · cases A <;> simp [execOp, ho, hx, hy, go_sem, h0, h1, hc, e0]
end
theorem Sl.take_ {α : Type} {r : Rep α} {w : World} {A : Option Addr} {n c : Nat} {l : List α} (h : Sl r w (.slice A n c) l) {N : Nat} (hN : N ≤ l.length) : Sl r w (.slice A N c) (l.take N) ∧ l.length ≤ c := by
  obtain ⟨A', c', he, h2, h3, h4⟩ := h
  injection he with e1 _ e3
  subst e1 e3
  have h5 := Sl.cut (r := r) (w := w) (A := A) (A' := A) (C' := c) (i := 0) (j := N) h2 h3 h4 hN (by cases A <;> simp [Addr.add]) rfl
  exact ⟨by rwa [List.drop_zero, Nat.sub_zero] at h5, h2⟩
set_option maxRecDepth 20000 in
theorem beginsR_any (l out : List Ev) (v u : Value) (w : World) (hl : Sl evR w v l) (hu : Sl evR w u out) (h1 : ok64 l.length) (_h2 : ok64 out.length) :
    Calls Try.prog 78 #[v, u] w fun r w' => r = .returned (.bool (decide (l.length ≤ out.length ∧ out.take l.length = l))) ∧ Bel w w' := by
  obtain ⟨Al, cl, rfl, -⟩ := sl_lit hl
  obtain ⟨Ao, co, rfl, -⟩ := sl_lit hu
  have HBC := Bel.rfl_ w
  refine af_enter (c := _) (args := [.slice Al l.length cl, .slice Ao out.length co]) Try.func78 rfl Try.ntmps78 (by kernel_rfl) ?_
  refine ca_seq ?_
  refine ca_region ?_
  refine wa_q (some 4) (.bool false) (by kernel_rfl) ?_
  refine wa_nil ?_
  refine la_code ?_
  refine ca_seq ?_
  refine ca_region ?_
  refine wa_q (some 5) (.slice Al l.length cl) (by kernel_rfl) ?_
  refine wa_q (some 6) (.int .i64 l.length) (by kernel_rfl) ?_
  refine wa_q (some 7) (.slice Ao out.length co) (by kernel_rfl) ?_
  refine wa_q (some 8) (.int .i64 out.length) (by kernel_rfl) ?_
  obtain ⟨zc1, hzc1⟩ : ∃ b : Bool, decide ((l.length : Int) ≤ out.length) = b := ⟨_, rfl⟩
  refine wa_do (some 9) (.bool zc1) (by kernel_rfl) (by kernel_rfl) (rb_leqI (k := l.length) (l := out.length) rfl (by kernel_rfl) (by kernel_rfl) hzc1) ?_
  refine wa_q (some 10) (.bool zc1) (by kernel_rfl) ?_
  cases zc1
  · skip
    have hq : (decide ((l.length : Int) ≤ out.length)) = false := by rw [hzc1]
    simp only [sB] at hq
    refine wa_skip (some 11) (by kernel_rfl) (by kernel_rfl) ?_
    refine wa_skip (some 12) (by kernel_rfl) (by kernel_rfl) ?_
    refine wa_skip (some 13) (by kernel_rfl) (by kernel_rfl) ?_
    refine wa_skip (some 14) (by kernel_rfl) (by kernel_rfl) ?_
    refine wa_skip (some 15) (by kernel_rfl) (by kernel_rfl) ?_
    refine wa_skip (some 16) (by kernel_rfl) (by kernel_rfl) ?_
    refine wa_q (some 17) (.bool false) (by kernel_rfl) ?_
    refine wa_q (some 4) (.bool false) (by kernel_rfl) ?_
    refine wa_nil ?_
    refine la_code ?_
    refine ca_ret ?_
    refine la_ret1 4 (.bool false) rfl (by kernel_rfl) ?_
    exact ⟨by rw [decide_eq_false (fun hh => by omega)], HBC⟩
  · skip
    have hq : (decide ((l.length : Int) ≤ out.length)) = true := by rw [hzc1]
    simp only [sB] at hq
    have hle : l.length ≤ out.length := by omega
    have HT := (hu.take_ hle).1
    have hco := (hu.take_ hle).2
    refine wa_q (some 11) (.slice Al l.length cl) (by kernel_rfl) ?_
    refine wa_q (some 12) (.slice Ao out.length co) (by kernel_rfl) ?_
    refine wa_q (some 13) (.slice Al l.length cl) (by kernel_rfl) ?_
    refine wa_q (some 14) (.int .i64 l.length) (by kernel_rfl) ?_
    refine wa_do (some 15) (.slice Ao l.length co) (by kernel_rfl) (by kernel_rfl) (rs_cutV (A := Ao) (n := out.length) (c := co) (j := (l.length : Int)) rfl (by kernel_rfl) (by kernel_rfl) (by omega) (by omega)) ?_
    obtain ⟨zb9, hzb9⟩ : ∃ b : Bool, decide (l = out.take l.length) = b := ⟨_, rfl⟩
    refine wa_sy (some 16) (.bool zb9) (by kernel_rfl) (by kernel_rfl) 33 #[.slice Al l.length cl, .slice Ao l.length co] (by kernel_rfl) (hzb9 ▸ sameEvents_any _ _ l (out.take l.length) _ hl HT h1 (by rw [List.length_take]; unfold ok64 at *; omega)) ?_
    intro WD hb
    replace HBC := HBC.tr hb
    clear hb
    refine wa_q (some 17) (.bool zb9) (by kernel_rfl) ?_
    refine wa_q (some 4) (.bool zb9) (by kernel_rfl) ?_
    refine wa_nil ?_
    refine la_code ?_
    refine ca_ret ?_
    refine la_ret1 4 (.bool zb9) rfl (by kernel_rfl) ?_
    exact ⟨by rw [← hzb9]; exact congrArg (fun b => Ending.returned (.bool b)) (decide_eq_decide.2 ⟨fun h => ⟨hle, h.symm⟩, fun h => h.2.symm⟩), HBC⟩
theorem vals_take {l : List Ev} {j : Nat} : (valsL (l.take j)).length ≤ j := by
  refine Nat.le_trans (valsL_len _) ?_
  rw [List.length_take]
  omega
set_option maxRecDepth 20000 in
theorem rightOf_any (ps : List PF) (hp : Prog ps) (l : List Ev) (vp vl : Value) (w : World) (hs : Sl pfR w vp ps) (hl : Sl evR w vl l) (hlen : l.length ≤ 4000) :
    Calls Try.prog 32 #[.agg #[vp], vl] w fun r w' => ∃ b, r = .returned (.bool b) ∧ (b = true ↔ RightP ps l) ∧ Bel w w' := by
  obtain ⟨Ap, cp, rfl, -⟩ := sl_lit hs
  obtain ⟨Al, cl, rfl, -⟩ := sl_lit hl
  have HB1 : Bel w (w.alloc (.cells #[.slice Ap ps.length cp] PGT)) := (Bel.rfl_ w).al _
  have HP1 := Blk.new w PGT #[.slice Ap ps.length cp]
  have hsame := right_same ps l
  refine af_enter (c := _) (args := [.agg #[.slice Ap ps.length cp], .slice Al l.length cl]) Try.func32 rfl Try.ntmps32 (by kernel_rfl) ?_
  refine ca_seq ?_
  refine ca_region ?_
  refine wa_w (some 2) (.pointer (some ⟨w.heap.size, 0, none⟩)) (w.alloc (.cells #[.slice Ap ps.length cp] PGT)) (by kernel_rfl) ?_
  generalize w.alloc (.cells #[.slice Ap ps.length cp] PGT) = W1 at *
  generalize w.heap.size = Q at *
  have HBC := HB1
  have HBK := Bel.rfl_ W1
  have HO0 : W1.ownsRow W1.heap.size INT 1 (.slice none 0 0) (valsL (l.take 0)).length ((valsL (l.take 0)).map (Value.int .i64)) := World.ownsRow_nil _ _ _ _
  refine wa_q (some 4) (.bool false) (by kernel_rfl) ?_
  refine wa_nil ?_
  refine la_code ?_
  refine ca_seq ?_
  refine ca_region ?_
  refine wa_q (some 5) (.slice none 0 0) (by kernel_rfl) ?_
  refine wa_nil ?_
  refine la_code ?_
  refine ca_seq ?_
  refine ca_region ?_
  refine wa_q (some 6) (.int .i64 0) (by kernel_rfl) ?_
  refine wa_nil ?_
  refine la_code ?_
  refine ca_seq ?_
  refine ca_seq ?_
  refine ca_region ?_
  refine wa_q (some 7) (.int .i64 0) (by kernel_rfl) ?_
  refine wa_nil ?_
  refine la_code ?_
  refine ca_block ?_
  refine ca_loop (α := Nat × Value) (fun j W => j.1 ≤ l.length ∧ W.ownsRow W1.heap.size INT 1 j.2 (valsL (l.take j.1)).length ((valsL (l.take j.1)).map (Value.int .i64)) ∧ Bel w W ∧ Bel W1 W) (fun j => [(1, .slice Al l.length cl), (2, .pointer (some ⟨Q, 0, none⟩)), (5, j.2), (6, .int .i64 (stepsE (l.take j.1) : Nat)), (7, .int .i64 (j.1 : Int))]) (fun j => l.length - j.1) (0, .slice none 0 0) [1, 2, 5, 6, 7] (by kernel_rfl) ⟨Nat.zero_le _, HO0, HBC, HBK⟩ ?_
  clear HBC HBK HO0
  rintro ⟨j, u⟩ WC ⟨hj, HO, HBC, HBK⟩
  dsimp only at hj HO
  have hvl : (valsL (l.take j)).length ≤ j := vals_take
  have hsl := stepsE_le l j
  refine ca_seq ?_
  refine ca_seq ?_
  refine ca_region ?_
  refine wa_q (some 9) (.int .i64 (j : Int)) (by kernel_rfl) ?_
  refine wa_q (some 10) (.slice Al l.length cl) (by kernel_rfl) ?_
  refine wa_q (some 11) (.int .i64 l.length) (by kernel_rfl) ?_
  obtain ⟨zc1, hzc1⟩ : ∃ b : Bool, decide (((j : Int) : Int) < l.length) = b := ⟨_, rfl⟩
  refine wa_do (some 12) (.bool zc1) (by kernel_rfl) (by kernel_rfl) (rb_lssI (k := (j : Int)) (l := l.length) rfl (by kernel_rfl) (by kernel_rfl) hzc1) ?_
  refine wa_nil ?_
  refine la_code ?_
  cases zc1 with
  | true =>
    have hq : (decide (((j : Int) : Int) < l.length)) = true := by rw [hzc1]
    simp only [sB] at hq
    have hjl : j < l.length := by omega
    obtain ⟨e, hx⟩ : ∃ e, l[j]? = some e := ⟨_, List.getElem?_eq_getElem hjl⟩
    obtain ⟨b, f, cs, rfl, HCS, hca⟩ := hl.elem hx
    obtain rfl : cs = e.cells := HCS
    have k0 : w.cell? ⟨b, f + j * 6, none⟩ = some (.int .i64 e.kind) := hca 0 _ rfl
    have k5 : w.cell? ⟨b, f + j * 6 + 5, none⟩ = some (.int .i64 e.value) := hca 5 _ rfl
    have hss := stepsE_snoc hx
    refine ca_true (by kernel_rfl) (by kernel_rfl) ?_
    refine ca_skip ?_
    refine la_code ?_
    refine ca_seq ?_
    refine ca_block ?_
    refine ca_seq ?_
    refine ca_seq ?_
    refine ca_region ?_
    refine wa_q (some 15) (.slice (some ⟨b, f, none⟩) l.length cl) (by kernel_rfl) ?_
    refine wa_q (some 16) (.int .i64 (j : Int)) (by kernel_rfl) ?_
    refine wa_do (some 17) (.pointer (some ⟨b, f + j * 6, none⟩)) (by kernel_rfl) (by kernel_rfl) (run_ix elEV b f l.length cl j rfl (by kernel_rfl) (by kernel_rfl) hjl) ?_
    refine wa_q (some 18) (.pointer (some ⟨b, f + j * 6, none⟩)) (by kernel_rfl) ?_
    refine wa_do (some 19) (.int .i64 e.kind) (by kernel_rfl) (by kernel_rfl) (rl_int rfl (by kernel_rfl) (Bel.cell HBC k0)) ?_
    obtain ⟨zc2, hzc2⟩ : ∃ b : Bool, ((e.kind : Int) == 1) = b := ⟨_, rfl⟩
    refine wa_do (some 20) (.bool zc2) (by kernel_rfl) (by kernel_rfl) (rb_eqlI (k := e.kind) (l := 1) rfl (by kernel_rfl) (by kernel_rfl) hzc2) ?_
    refine wa_nil ?_
    refine la_code ?_
    cases zc2 with
    | true =>
      have hq : (((e.kind : Int) == 1)) = true := by rw [hzc2]
      simp only [sB] at hq
      have hst : ((stepsE (l.take (j + 1)) : Nat) : Int) = (stepsE (l.take j) : Nat) + 1 := by rw [hss, if_pos hq]; omega
      refine ca_true (by kernel_rfl) (by kernel_rfl) ?_
      refine ca_region ?_
      refine wa_q (some 21) (.int .i64 (stepsE (l.take j) : Nat)) (by kernel_rfl) ?_
      refine wa_do (some 22) (.int .i64 ((stepsE (l.take j) : Nat) + 1)) (by kernel_rfl) (by kernel_rfl) (rb_add64 (k := (stepsE (l.take j) : Nat)) (l := 1) rfl (by kernel_rfl) (by kernel_rfl) (by omega) (by omega) rfl) ?_
      refine wa_q (some 6) (.int .i64 ((stepsE (l.take j) : Nat) + 1)) (by kernel_rfl) ?_
      refine wa_nil ?_
      refine la_code ?_
      refine ca_seq ?_
      refine ca_region ?_
      refine wa_q (some 23) (.slice (some ⟨b, f, none⟩) l.length cl) (by kernel_rfl) ?_
      refine wa_q (some 24) (.int .i64 (j : Int)) (by kernel_rfl) ?_
      refine wa_do (some 25) (.pointer (some ⟨b, f + j * 6, none⟩)) (by kernel_rfl) (by kernel_rfl) (run_ix elEV b f l.length cl j rfl (by kernel_rfl) (by kernel_rfl) hjl) ?_
      refine wa_q (some 26) (.pointer (some ⟨b, f + j * 6, none⟩)) (by kernel_rfl) ?_
      refine wa_do (some 27) (.int .i64 e.kind) (by kernel_rfl) (by kernel_rfl) (rl_int rfl (by kernel_rfl) (Bel.cell HBC k0)) ?_
      obtain ⟨zc3, hzc3⟩ : ∃ b : Bool, ((e.kind : Int) == 3) = b := ⟨_, rfl⟩
      refine wa_do (some 28) (.bool zc3) (by kernel_rfl) (by kernel_rfl) (rb_eqlI (k := e.kind) (l := 3) rfl (by kernel_rfl) (by kernel_rfl) hzc3) ?_
      refine wa_nil ?_
      refine la_code ?_
      cases zc3 with
      | true =>
        have hq3 : (((e.kind : Int) == 3)) = true := by rw [hzc3]
        simp only [sB] at hq3
        refine ca_true (by kernel_rfl) (by kernel_rfl) ?_
        refine ca_region ?_
        refine wa_q (some 29) (u) (by kernel_rfl) ?_
        refine wa_q (some 30) (.slice (some ⟨b, f, none⟩) l.length cl) (by kernel_rfl) ?_
        refine wa_q (some 31) (.int .i64 (j : Int)) (by kernel_rfl) ?_
        refine wa_do (some 32) (.pointer (some ⟨b, f + j * 6, none⟩)) (by kernel_rfl) (by kernel_rfl) (run_ix elEV b f l.length cl j rfl (by kernel_rfl) (by kernel_rfl) hjl) ?_
        refine wa_q (some 33) (.pointer (some ⟨b, f + j * 6 + 5, none⟩)) (by kernel_rfl) ?_
        refine wa_do (some 34) (.int .i64 e.value) (by kernel_rfl) (by kernel_rfl) (rl_int rfl (by kernel_rfl) (Bel.cell HBC k5)) ?_
        refine wa_w (some 35) (.slice (some ⟨WC.heap.size, 0, none⟩) 1 1) (WC.alloc (.cells #[.int .i64 e.value] INT)) (by kernel_rfl) ?_
        refine wa_app (some 36) WC (.tmp 29) (.tmp 35) 23 (by kernel_rfl) rfl rfl W1.heap.size elI u (valsL (l.take j)).length _ (by kernel_rfl) (by kernel_rfl) HO [.int .i64 e.value] (by kernel_rfl) (by kernel_rfl) rfl (by simp [Value.oneCell']) (by simp only [maxLen]; omega) (by omega) HBK.size ?_
        intro g6 cap6 w6 ho6 hg6 _
        have HBK6 : Bel W1 w6 := Below.grown HBK hg6 HBK.size (fun k hk => (HO.lt k hk).1)
        have HBC6 : Bel w w6 := HB1.tr HBK6
        refine wa_q (some 5) (.slice (some ⟨g6, 0, none⟩) ((valsL (l.take j)).length + 1) cap6) (by kernel_rfl) ?_
        refine wa_nil ?_
        refine la_block_normal ?_
        refine la_code ?_
        refine ca_region ?_
        refine wa_q (some 13) (.int .i64 (j : Int)) (by kernel_rfl) ?_
        refine wa_do (some 14) (.int .i64 ((j : Int) + 1)) (by kernel_rfl) (by kernel_rfl) (rb_add64 (k := (j : Int)) (l := 1) rfl (by kernel_rfl) (by kernel_rfl) (by omega) (by omega) rfl) ?_
        refine wa_q (some 7) (.int .i64 ((j : Int) + 1)) (by kernel_rfl) ?_
        refine wa_nil ?_
        have HO2 : w6.ownsRow W1.heap.size INT 1 (.slice (some ⟨g6, 0, none⟩) ((valsL (l.take j)).length + 1) cap6) (valsL (l.take (j + 1))).length ((valsL (l.take (j + 1))).map (Value.int .i64)) := by rw [valsL_snoc hx, if_pos (by omega), List.map_append, List.length_append]; exact ho6
        refine la_meet (j + 1, .slice (some ⟨g6, 0, none⟩) ((valsL (l.take j)).length + 1) cap6) [1, 2, 5, 6, 7] (by rw [hst]; kernel_rfl) ⟨⟨by dsimp only; omega, HO2, HBC6, HBK6⟩, by dsimp only; omega⟩
      | false =>
        have hq3 : (((e.kind : Int) == 3)) = false := by rw [hzc3]
        simp only [sB] at hq3
        refine ca_false (by kernel_rfl) (by kernel_rfl) ?_
        refine ca_skip ?_
        refine la_block_normal ?_
        refine la_code ?_
        refine ca_region ?_
        refine wa_q (some 13) (.int .i64 (j : Int)) (by kernel_rfl) ?_
        refine wa_do (some 14) (.int .i64 ((j : Int) + 1)) (by kernel_rfl) (by kernel_rfl) (rb_add64 (k := (j : Int)) (l := 1) rfl (by kernel_rfl) (by kernel_rfl) (by omega) (by omega) rfl) ?_
        refine wa_q (some 7) (.int .i64 ((j : Int) + 1)) (by kernel_rfl) ?_
        refine wa_nil ?_
        have HO2 : WC.ownsRow W1.heap.size INT 1 u (valsL (l.take (j + 1))).length ((valsL (l.take (j + 1))).map (Value.int .i64)) := by rw [valsL_snoc hx, if_neg (by omega)]; exact HO
        have HBC6 := HBC
        have HBK6 := HBK
        refine la_meet (j + 1, u) [1, 2, 5, 6, 7] (by rw [hst]; kernel_rfl) ⟨⟨by dsimp only; omega, HO2, HBC6, HBK6⟩, by dsimp only; omega⟩
    | false =>
      have hq : (((e.kind : Int) == 1)) = false := by rw [hzc2]
      simp only [sB] at hq
      have hst : ((stepsE (l.take (j + 1)) : Nat) : Int) = (stepsE (l.take j) : Nat) := by rw [hss, if_neg hq]; omega
      refine ca_false (by kernel_rfl) (by kernel_rfl) ?_
      refine ca_skip ?_
      refine la_code ?_
      refine ca_seq ?_
      refine ca_region ?_
      refine wa_q (some 23) (.slice (some ⟨b, f, none⟩) l.length cl) (by kernel_rfl) ?_
      refine wa_q (some 24) (.int .i64 (j : Int)) (by kernel_rfl) ?_
      refine wa_do (some 25) (.pointer (some ⟨b, f + j * 6, none⟩)) (by kernel_rfl) (by kernel_rfl) (run_ix elEV b f l.length cl j rfl (by kernel_rfl) (by kernel_rfl) hjl) ?_
      refine wa_q (some 26) (.pointer (some ⟨b, f + j * 6, none⟩)) (by kernel_rfl) ?_
      refine wa_do (some 27) (.int .i64 e.kind) (by kernel_rfl) (by kernel_rfl) (rl_int rfl (by kernel_rfl) (Bel.cell HBC k0)) ?_
      obtain ⟨zc4, hzc4⟩ : ∃ b : Bool, ((e.kind : Int) == 3) = b := ⟨_, rfl⟩
      refine wa_do (some 28) (.bool zc4) (by kernel_rfl) (by kernel_rfl) (rb_eqlI (k := e.kind) (l := 3) rfl (by kernel_rfl) (by kernel_rfl) hzc4) ?_
      refine wa_nil ?_
      refine la_code ?_
      cases zc4 with
      | true =>
        have hq3 : (((e.kind : Int) == 3)) = true := by rw [hzc4]
        simp only [sB] at hq3
        refine ca_true (by kernel_rfl) (by kernel_rfl) ?_
        refine ca_region ?_
        refine wa_q (some 29) (u) (by kernel_rfl) ?_
        refine wa_q (some 30) (.slice (some ⟨b, f, none⟩) l.length cl) (by kernel_rfl) ?_
        refine wa_q (some 31) (.int .i64 (j : Int)) (by kernel_rfl) ?_
        refine wa_do (some 32) (.pointer (some ⟨b, f + j * 6, none⟩)) (by kernel_rfl) (by kernel_rfl) (run_ix elEV b f l.length cl j rfl (by kernel_rfl) (by kernel_rfl) hjl) ?_
        refine wa_q (some 33) (.pointer (some ⟨b, f + j * 6 + 5, none⟩)) (by kernel_rfl) ?_
        refine wa_do (some 34) (.int .i64 e.value) (by kernel_rfl) (by kernel_rfl) (rl_int rfl (by kernel_rfl) (Bel.cell HBC k5)) ?_
        refine wa_w (some 35) (.slice (some ⟨WC.heap.size, 0, none⟩) 1 1) (WC.alloc (.cells #[.int .i64 e.value] INT)) (by kernel_rfl) ?_
        refine wa_app (some 36) WC (.tmp 29) (.tmp 35) 23 (by kernel_rfl) rfl rfl W1.heap.size elI u (valsL (l.take j)).length _ (by kernel_rfl) (by kernel_rfl) HO [.int .i64 e.value] (by kernel_rfl) (by kernel_rfl) rfl (by simp [Value.oneCell']) (by simp only [maxLen]; omega) (by omega) HBK.size ?_
        intro g6 cap6 w6 ho6 hg6 _
        have HBK6 : Bel W1 w6 := Below.grown HBK hg6 HBK.size (fun k hk => (HO.lt k hk).1)
        have HBC6 : Bel w w6 := HB1.tr HBK6
        refine wa_q (some 5) (.slice (some ⟨g6, 0, none⟩) ((valsL (l.take j)).length + 1) cap6) (by kernel_rfl) ?_
        refine wa_nil ?_
        refine la_block_normal ?_
        refine la_code ?_
        refine ca_region ?_
        refine wa_q (some 13) (.int .i64 (j : Int)) (by kernel_rfl) ?_
        refine wa_do (some 14) (.int .i64 ((j : Int) + 1)) (by kernel_rfl) (by kernel_rfl) (rb_add64 (k := (j : Int)) (l := 1) rfl (by kernel_rfl) (by kernel_rfl) (by omega) (by omega) rfl) ?_
        refine wa_q (some 7) (.int .i64 ((j : Int) + 1)) (by kernel_rfl) ?_
        refine wa_nil ?_
        have HO2 : w6.ownsRow W1.heap.size INT 1 (.slice (some ⟨g6, 0, none⟩) ((valsL (l.take j)).length + 1) cap6) (valsL (l.take (j + 1))).length ((valsL (l.take (j + 1))).map (Value.int .i64)) := by rw [valsL_snoc hx, if_pos (by omega), List.map_append, List.length_append]; exact ho6
        refine la_meet (j + 1, .slice (some ⟨g6, 0, none⟩) ((valsL (l.take j)).length + 1) cap6) [1, 2, 5, 6, 7] (by rw [hst]; kernel_rfl) ⟨⟨by dsimp only; omega, HO2, HBC6, HBK6⟩, by dsimp only; omega⟩
      | false =>
        have hq3 : (((e.kind : Int) == 3)) = false := by rw [hzc4]
        simp only [sB] at hq3
        refine ca_false (by kernel_rfl) (by kernel_rfl) ?_
        refine ca_skip ?_
        refine la_block_normal ?_
        refine la_code ?_
        refine ca_region ?_
        refine wa_q (some 13) (.int .i64 (j : Int)) (by kernel_rfl) ?_
        refine wa_do (some 14) (.int .i64 ((j : Int) + 1)) (by kernel_rfl) (by kernel_rfl) (rb_add64 (k := (j : Int)) (l := 1) rfl (by kernel_rfl) (by kernel_rfl) (by omega) (by omega) rfl) ?_
        refine wa_q (some 7) (.int .i64 ((j : Int) + 1)) (by kernel_rfl) ?_
        refine wa_nil ?_
        have HO2 : WC.ownsRow W1.heap.size INT 1 u (valsL (l.take (j + 1))).length ((valsL (l.take (j + 1))).map (Value.int .i64)) := by rw [valsL_snoc hx, if_neg (by omega)]; exact HO
        have HBC6 := HBC
        have HBK6 := HBK
        refine la_meet (j + 1, u) [1, 2, 5, 6, 7] (by rw [hst]; kernel_rfl) ⟨⟨by dsimp only; omega, HO2, HBC6, HBK6⟩, by dsimp only; omega⟩
  | false =>
    have hq : (decide (((j : Int) : Int) < l.length)) = false := by rw [hzc1]
    simp only [sB] at hq
    obtain ⟨X, hX⟩ : ∃ X, valsL l = X := ⟨_, rfl⟩
    have hjE : j = l.length := by omega
    have hst : ((stepsE (l.take j) : Nat) : Int) = ((stepsE l : Nat) : Int) := by rw [List.take_of_length_le (by omega)]
    rw [List.take_of_length_le (by omega), hX] at HO
    refine ca_false (by kernel_rfl) (by kernel_rfl) ?_
    refine ca_exit ?_
    refine la_then_exit ?_
    refine la_then_exit ?_
    refine la_block_hit ?_
    refine la_code ?_
    refine ca_seq ?_
    refine ca_seq ?_
    have hXl : X.length ≤ 4000 := by rw [← hX]; have := valsL_len l; omega
    obtain ⟨AX, cX, rfl⟩ := own_shape HO
    have HBX := Bel.rfl_ WC
    have hF0 : ∀ i x, i < 0 → X[i]? = some x → Num x ∧ (50 ≤ i → x = 0) := fun i x h => by omega
    have HXS : Sl intR WC (.slice AX X.length cX) X := Sl.own_int HO rfl
    refine ca_region ?_
    refine wa_q (some 8) (.int .i64 0) (by kernel_rfl) ?_
    refine wa_nil ?_
    refine la_code ?_
    refine ca_block ?_
    refine ca_loop (α := Nat) (fun i W => i ≤ X.length ∧ (∀ k x, k < i → X[k]? = some x → Num x ∧ (50 ≤ k → x = 0)) ∧ Bel WC W) (fun i => [(1, .slice Al l.length cl), (2, .pointer (some ⟨Q, 0, none⟩)), (5, .slice AX X.length cX), (6, .int .i64 (stepsE l : Nat)), (8, .int .i64 (i : Int))]) (fun i => X.length - i) 0 [1, 2, 5, 6, 8] (by rw [← hst]; kernel_rfl) ⟨Nat.zero_le _, hF0, HBX⟩ ?_
    clear hF0 HBX
    rintro i WE ⟨hi, hFi, HBX⟩
    have HOW := HBX.own HO
    refine ca_seq ?_
    refine ca_seq ?_
    refine ca_region ?_
    refine wa_q (some 37) (.int .i64 (i : Int)) (by kernel_rfl) ?_
    refine wa_q (some 38) (.slice AX X.length cX) (by kernel_rfl) ?_
    refine wa_q (some 39) (.int .i64 X.length) (by kernel_rfl) ?_
    obtain ⟨zc5, hzc5⟩ : ∃ b : Bool, decide (((i : Int) : Int) < X.length) = b := ⟨_, rfl⟩
    refine wa_do (some 40) (.bool zc5) (by kernel_rfl) (by kernel_rfl) (rb_lssI (k := (i : Int)) (l := X.length) rfl (by kernel_rfl) (by kernel_rfl) hzc5) ?_
    refine wa_nil ?_
    refine la_code ?_
    cases zc5 with
    | true =>
      have hq : (decide (((i : Int) : Int) < X.length)) = true := by rw [hzc5]
      simp only [sB] at hq
      have hil : i < X.length := by omega
      obtain ⟨x, hx⟩ : ∃ x, X[i]? = some x := ⟨_, List.getElem?_eq_getElem hil⟩
      obtain ⟨gX, cX2, he, hxc⟩ := own_at HOW hx
      injection he with e1 _ e3
      subst e1 e3
      obtain ⟨zn0, hzn0⟩ : ∃ b : Bool, decide (Num x) = b := ⟨_, rfl⟩
      refine ca_true (by kernel_rfl) (by kernel_rfl) ?_
      refine ca_skip ?_
      refine la_code ?_
      refine ca_seq ?_
      refine ca_block ?_
      refine ca_seq ?_
      refine ca_region ?_
      refine wa_q (some 43) (.slice (some ⟨gX, 0, none⟩) X.length cX) (by kernel_rfl) ?_
      refine wa_q (some 44) (.int .i64 (i : Int)) (by kernel_rfl) ?_
      refine wa_do (some 45) (.pointer (some ⟨gX, i, none⟩)) (by kernel_rfl) (by kernel_rfl) (run_ix0i1 elI gX X.length cX i rfl (by kernel_rfl) (by kernel_rfl) hil) ?_
      refine wa_do (some 46) (.int .i64 x) (by kernel_rfl) (by kernel_rfl) (rl_int rfl (by kernel_rfl) hxc) ?_
      refine wa_sy (some 47) (.bool zn0) (by kernel_rfl) (by kernel_rfl) 49 #[.int .i64 x] (by kernel_rfl) (hzn0 ▸ (isNumber_any x WE).mono (fun r W h => ⟨h.1, h.2 ▸ Bel.rfl_ _⟩)) ?_
      intro WD hb
      replace HBX := HBX.tr hb
      replace HOW := hb.own HOW
      replace hxc := hb.cell hxc
      clear hb
      obtain ⟨zr6, hzr6⟩ : ∃ b : Bool, (!zn0) = b := ⟨_, rfl⟩
      refine wa_do (some 48) (.bool zr6) (by kernel_rfl) (by kernel_rfl) (by subst hzr6; kernel_rfl) ?_
      refine wa_q (some 49) (.bool zr6) (by kernel_rfl) ?_
      obtain ⟨zg7, hzg7⟩ : ∃ b : Bool, b = (!zr6) := ⟨_, rfl⟩
      refine wa_if (some 50) zg7 (.int .i64 (i : Int)) (by kernel_rfl) (by kernel_rfl) (by subst hzg7; cases zr6 <;> kernel_rfl) (fun hG => by subst hzg7; obtain rfl : zr6 = false := (by revert hG; cases zr6 <;> simp); kernel_rfl) ?_
      obtain ⟨zc8, hzc8⟩ : ∃ b : Bool, decide ((50 : Int) ≤ (i : Int)) = b := ⟨_, rfl⟩
      refine wa_if (some 51) zg7 (.bool zc8) (by kernel_rfl) (by kernel_rfl) (by subst hzg7; cases zr6 <;> kernel_rfl) (fun hG => by subst hzg7; obtain rfl : zr6 = false := (by revert hG; cases zr6 <;> simp); exact rb_geqI (k := (i : Int)) (l := 50) rfl (by kernel_rfl) (by kernel_rfl) hzc8) ?_
      refine wa_if (some 52) zg7 (.bool zc8) (by kernel_rfl) (by kernel_rfl) (by subst hzg7; cases zr6 <;> kernel_rfl) (fun hG => by subst hzg7; obtain rfl : zr6 = false := (by revert hG; cases zr6 <;> simp); kernel_rfl) ?_
      obtain ⟨zg9, hzg9⟩ : ∃ b : Bool, b = (zg7 && zc8) := ⟨_, rfl⟩
      refine wa_if (some 53) zg9 (.slice (some ⟨gX, 0, none⟩) X.length cX) (by kernel_rfl) (by kernel_rfl) (by subst hzg9; cases zg7 <;> cases zc8 <;> kernel_rfl) (fun hG => by subst hzg9; obtain ⟨hq1, hq2⟩ : zg7 = true ∧ zc8 = true := (by revert hG; cases zg7 <;> cases zc8 <;> simp); subst hq2; subst hzg7; obtain rfl : zr6 = false := (by revert hq1; cases zr6 <;> simp); kernel_rfl) ?_
      refine wa_if (some 54) zg9 (.int .i64 (i : Int)) (by kernel_rfl) (by kernel_rfl) (by subst hzg9; cases zg7 <;> cases zc8 <;> kernel_rfl) (fun hG => by subst hzg9; obtain ⟨hq1, hq2⟩ : zg7 = true ∧ zc8 = true := (by revert hG; cases zg7 <;> cases zc8 <;> simp); subst hq2; subst hzg7; obtain rfl : zr6 = false := (by revert hq1; cases zr6 <;> simp); kernel_rfl) ?_
      refine wa_if (some 55) zg9 (.pointer (some ⟨gX, i, none⟩)) (by kernel_rfl) (by kernel_rfl) (by subst hzg9; cases zg7 <;> cases zc8 <;> kernel_rfl) (fun hG => by subst hzg9; obtain ⟨hq1, hq2⟩ : zg7 = true ∧ zc8 = true := (by revert hG; cases zg7 <;> cases zc8 <;> simp); subst hq2; subst hzg7; obtain rfl : zr6 = false := (by revert hq1; cases zr6 <;> simp); exact run_ix0i1 elI gX X.length cX i rfl (by kernel_rfl) (by kernel_rfl) hil) ?_
      refine wa_if (some 56) zg9 (.int .i64 x) (by kernel_rfl) (by kernel_rfl) (by subst hzg9; cases zg7 <;> cases zc8 <;> kernel_rfl) (fun hG => by subst hzg9; obtain ⟨hq1, hq2⟩ : zg7 = true ∧ zc8 = true := (by revert hG; cases zg7 <;> cases zc8 <;> simp); subst hq2; subst hzg7; obtain rfl : zr6 = false := (by revert hq1; cases zr6 <;> simp); exact rl_int rfl (by kernel_rfl) hxc) ?_
      obtain ⟨zc10, hzc10⟩ : ∃ b : Bool, ((x : Int) != 0) = b := ⟨_, rfl⟩
      refine wa_if (some 57) zg9 (.bool zc10) (by kernel_rfl) (by kernel_rfl) (by subst hzg9; cases zg7 <;> cases zc8 <;> kernel_rfl) (fun hG => by subst hzg9; obtain ⟨hq1, hq2⟩ : zg7 = true ∧ zc8 = true := (by revert hG; cases zg7 <;> cases zc8 <;> simp); subst hq2; subst hzg7; obtain rfl : zr6 = false := (by revert hq1; cases zr6 <;> simp); exact rb_neqI (k := x) (l := 0) rfl (by kernel_rfl) (by kernel_rfl) hzc10) ?_
      obtain ⟨zr11, hzr11⟩ : ∃ b : Bool, (zc8 && zc10) = b := ⟨_, rfl⟩
      refine wa_if (some 58) zg7 (.bool zr11) (by kernel_rfl) (by kernel_rfl) (by subst hzg7; cases zr6 <;> kernel_rfl) (fun hG => by subst hzr11; cases zc8 <;> (subst hzg7; obtain rfl : zr6 = false := (by revert hG; cases zr6 <;> simp); subst hzg9; kernel_rfl)) ?_
      obtain ⟨zr12, hzr12⟩ : ∃ b : Bool, (zr6 || zr11) = b := ⟨_, rfl⟩
      refine wa_do (some 59) (.bool zr12) (by kernel_rfl) (by kernel_rfl) (by subst hzr12; cases zr6 <;> (subst hzg7; kernel_rfl)) ?_
      refine wa_nil ?_
      refine la_code ?_
      cases zr12 with
      | true =>
        have hq : ((!(decide (Num x))) || ((decide ((50 : Int) ≤ (i : Int))) && (((x : Int) != 0)))) = true := by rw [hzn0, hzr6, hzc8, hzc10, hzr11, hzr12]
        simp only [sB] at hq
        have hno : ¬ RightP ps l := fun h => by
          obtain ⟨hf, -⟩ := hsame.2 h
          rw [hX] at hf
          have := hf i x hx
          rcases hq with h | ⟨h1, h2⟩
          · exact h this.1
          · exact h2 (this.2 (by omega))
        refine ca_true (by kernel_rfl) (by kernel_rfl) ?_
        refine ca_seq ?_
        refine ca_region ?_
        refine wa_q (some 4) (.bool false) (by kernel_rfl) ?_
        refine wa_nil ?_
        refine la_code ?_
        refine ca_ret ?_
        refine la_block_ret ?_
        refine la_then_ret ?_
        refine la_then_ret ?_
        refine la_block_ret ?_
        refine la_then_ret ?_
        refine la_ret1 4 (.bool false) rfl (by kernel_rfl) ?_
        exact ⟨_, rfl, noB hno, HB1.tr (HBK.tr HBX)⟩
      | false =>
        have hq : ((!(decide (Num x))) || ((decide ((50 : Int) ≤ (i : Int))) && (((x : Int) != 0)))) = false := by rw [hzn0, hzr6, hzc8, hzc10, hzr11, hzr12]
        simp only [sB] at hq
        have hF2 : ∀ k x, k < i + 1 → X[k]? = some x → Num x ∧ (50 ≤ k → x = 0) := fun k y hk hy => by
          by_cases hki : k = i
          · subst hki
            rw [hx] at hy
            injection hy with hy
            subst hy
            refine ⟨hq.1, fun h50 => ?_⟩
            rcases hq.2 with h | h
            · omega
            · exact h
          · exact hFi k y (by omega) hy
        refine ca_false (by kernel_rfl) (by kernel_rfl) ?_
        refine ca_skip ?_
        refine la_block_normal ?_
        refine la_code ?_
        refine ca_region ?_
        refine wa_q (some 41) (.int .i64 (i : Int)) (by kernel_rfl) ?_
        refine wa_do (some 42) (.int .i64 ((i : Int) + 1)) (by kernel_rfl) (by kernel_rfl) (rb_add64 (k := (i : Int)) (l := 1) rfl (by kernel_rfl) (by kernel_rfl) (by omega) (by omega) rfl) ?_
        refine wa_q (some 8) (.int .i64 ((i : Int) + 1)) (by kernel_rfl) ?_
        refine wa_nil ?_
        refine la_meet (i + 1) [1, 2, 5, 6, 8] (by kernel_rfl) ⟨⟨by omega, hF2, HBX⟩, by omega⟩
    | false =>
      have hq : (decide (((i : Int) : Int) < X.length)) = false := by rw [hzc5]
      simp only [sB] at hq
      have hFX : FitIn X := fun k x hk => hFi k x (by have := (List.getElem?_eq_some_iff.1 hk).1; omega) hk
      clear hFi
      refine ca_false (by kernel_rfl) (by kernel_rfl) ?_
      refine ca_exit ?_
      refine la_then_exit ?_
      refine la_then_exit ?_
      refine la_block_hit ?_
      refine la_code ?_
      refine ca_seq ?_
      refine ca_seq ?_
      refine ca_region ?_
      refine wa_q (some 60) (.slice AX X.length cX) (by kernel_rfl) ?_
      refine wa_q (some 61) (.int .i64 X.length) (by kernel_rfl) ?_
      obtain ⟨zc13, hzc13⟩ : ∃ b : Bool, decide ((50 : Int) < X.length) = b := ⟨_, rfl⟩
      refine wa_do (some 62) (.bool zc13) (by kernel_rfl) (by kernel_rfl) (rb_gtrI (k := X.length) (l := 50) rfl (by kernel_rfl) (by kernel_rfl) hzc13) ?_
      refine wa_nil ?_
      refine la_code ?_
      cases zc13 with
      | true =>
        have hq5 : (decide ((50 : Int) < X.length)) = true := by rw [hzc13]
        simp only [sB] at hq5
        refine ca_true (by kernel_rfl) (by kernel_rfl) ?_
        refine ca_region ?_
        refine wa_q (some 63) (.slice AX X.length cX) (by kernel_rfl) ?_
        refine wa_do (some 64) (.slice AX 50 cX) (by kernel_rfl) (by kernel_rfl) (rs_cutI (A := AX) (n := X.length) (c := cX) (j := 50) rfl (by kernel_rfl) (by kernel_rfl) (by omega) (by have := (HXS.take_ (Nat.le_refl _)).2; omega)) ?_
        refine wa_q (some 5) (.slice AX 50 cX) (by kernel_rfl) ?_
        refine wa_nil ?_
        refine la_code ?_
        refine ca_seq ?_
        have HX5 : Sl intR WC (.slice AX 50 cX) (X.take 50) := (HXS.take_ (by omega)).1
        have hnum : ∀ n ∈ X.take 50, Num n := hFX.num
        have hx50 : (X.take 50).length ≤ 50 := by rw [List.length_take]; omega
        replace HBK := HBK.tr HBX
        replace HBC := HB1.tr HBK
        replace HX5 := HX5.keep HBX
        obtain ⟨T, hT⟩ : ∃ T, stepsE l = T := ⟨_, rfl⟩
        have hT4 : T ≤ 4000 := by rw [← hT]; have := stepsE_le l l.length; rw [List.take_length] at this; omega
        rw [hT]
        unfold RightR at hsame
        rw [hX, hT] at hsame
        refine ca_region ?_
        refine wa_q (some 65) (.slice Al l.length cl) (by kernel_rfl) ?_
        refine wa_do (some 66) (.agg #[.slice Ap ps.length cp]) (by kernel_rfl) (by kernel_rfl) (rl_pg rfl (by kernel_rfl) ((HP1.keep HBK).cell (i := 0) rfl)) ?_
        refine wa_q (some 67) (.slice AX 50 cX) (by kernel_rfl) ?_
        refine wa_call (some 68) (by kernel_rfl) (by kernel_rfl) 30 #[.agg #[.slice Ap ps.length cp], .slice AX 50 cX, .int .i64 500] (by kernel_rfl) (traceOf_any hp (hs.keep HBC) HX5 hnum (by omega) (by omega) (by omega)) ?_
        rintro r WF ⟨out1, u1, rfl, HS1, hran1, hb⟩
        obtain ⟨A1, c1, rfl, -⟩ := sl_lit HS1
        replace HBC := HBC.tr hb
        replace HBK := HBK.tr hb
        replace HX5 := HX5.keep hb
        clear hb
        refine ⟨_, rfl, ?_⟩
        have hol1 : ok64 out1.length := by have := hran1.len hp hnum (by omega); unfold ok64; omega
        obtain ⟨zb19, hzb19⟩ : ∃ b : Bool, decide (l.length ≤ out1.length ∧ out1.take l.length = l) = b := ⟨_, rfl⟩
        refine wa_sy (some 69) (.bool zb19) (by kernel_rfl) (by kernel_rfl) 78 #[.slice Al l.length cl, .slice A1 out1.length c1] (by kernel_rfl) (hzb19 ▸ beginsR_any l out1 _ _ _ (hl.keep HBC) HS1 (by unfold ok64; omega) hol1) ?_
        intro WD hb
        replace HBC := HBC.tr hb
        replace HBK := HBK.tr hb
        replace HX5 := HX5.keep hb
        clear hb
        refine wa_q (some 70) (.bool zb19) (by kernel_rfl) ?_
        cases zb19
        · skip
          have hq7 : (decide (l.length ≤ out1.length ∧ out1.take l.length = l)) = false := by rw [hzb19]
          simp only [sB] at hq7
          refine wa_q (some 71) (.int .i64 (T : Int)) (by kernel_rfl) ?_
          obtain ⟨zc14, hzc14⟩ : ∃ b : Bool, decide (((T : Int) : Int) ≤ 500) = b := ⟨_, rfl⟩
          refine wa_do (some 72) (.bool zc14) (by kernel_rfl) (by kernel_rfl) (rb_leqI (k := (T : Int)) (l := 500) rfl (by kernel_rfl) (by kernel_rfl) hzc14) ?_
          refine wa_q (some 73) (.bool zc14) (by kernel_rfl) ?_
          cases zc14
          · skip
            have hq8 : (decide (((T : Int) : Int) ≤ 500)) = false := by rw [hzc14]
            simp only [sB] at hq8
            refine wa_skip (some 74) (by kernel_rfl) (by kernel_rfl) ?_
            refine wa_skip (some 75) (by kernel_rfl) (by kernel_rfl) ?_
            refine wa_skip (some 76) (by kernel_rfl) (by kernel_rfl) ?_
            refine wa_skip (some 77) (by kernel_rfl) (by kernel_rfl) ?_
            refine wa_skip (some 78) (by kernel_rfl) (by kernel_rfl) ?_
            refine wa_skip (some 79) (by kernel_rfl) (by kernel_rfl) ?_
            refine wa_q (some 80) (.bool false) (by kernel_rfl) ?_
            refine wa_q (some 81) (.bool false) (by kernel_rfl) ?_
            refine wa_q (some 4) (.bool false) (by kernel_rfl) ?_
            refine wa_nil ?_
            refine la_code ?_
            refine ca_ret ?_
            refine la_ret1 4 (.bool false) rfl (by kernel_rfl) ?_
            exact ⟨_, rfl, noB (fun h => by
              rcases (hsame.2 h).2 with h | ⟨h5, -⟩
              · exact Begins.not hran1 (fun hh => hq7 hh) h
              · omega), HBC⟩
          · skip
            have hq8 : (decide (((T : Int) : Int) ≤ 500)) = true := by rw [hzc14]
            simp only [sB] at hq8
            refine wa_q (some 74) (.slice Al l.length cl) (by kernel_rfl) ?_
            refine wa_do (some 75) (.agg #[.slice Ap ps.length cp]) (by kernel_rfl) (by kernel_rfl) (rl_pg rfl (by kernel_rfl) ((HP1.keep HBK).cell (i := 0) rfl)) ?_
            refine wa_q (some 76) (.slice AX 50 cX) (by kernel_rfl) ?_
            refine wa_q (some 77) (.int .i64 (T : Int)) (by kernel_rfl) ?_
            refine wa_call (some 78) (by kernel_rfl) (by kernel_rfl) 30 #[.agg #[.slice Ap ps.length cp], .slice AX 50 cX, .int .i64 (T : Int)] (by kernel_rfl) (traceOf_any hp (hs.keep HBC) HX5 hnum (by omega) (by omega) (by omega)) ?_
            rintro r WF ⟨out2, u2, rfl, HS2, hran2, hb⟩
            obtain ⟨A2, c2, rfl, -⟩ := sl_lit HS2
            replace HBC := HBC.tr hb
            replace HBK := HBK.tr hb
            replace HX5 := HX5.keep hb
            clear hb
            refine ⟨_, rfl, ?_⟩
            have hol2 : ok64 out2.length := by have := hran2.len hp hnum (by omega); unfold ok64; omega
            obtain ⟨zb29, hzb29⟩ : ∃ b : Bool, decide (l.length ≤ out2.length ∧ out2.take l.length = l) = b := ⟨_, rfl⟩
            refine wa_sy (some 79) (.bool zb29) (by kernel_rfl) (by kernel_rfl) 78 #[.slice Al l.length cl, .slice A2 out2.length c2] (by kernel_rfl) (hzb29 ▸ beginsR_any l out2 _ _ _ (hl.keep HBC) HS2 (by unfold ok64; omega) hol2) ?_
            intro WD hb
            replace HBC := HBC.tr hb
            replace HBK := HBK.tr hb
            replace HX5 := HX5.keep hb
            clear hb
            refine wa_q (some 80) (.bool zb29) (by kernel_rfl) ?_
            refine wa_q (some 81) (.bool zb29) (by kernel_rfl) ?_
            refine wa_q (some 4) (.bool zb29) (by kernel_rfl) ?_
            refine wa_nil ?_
            refine la_code ?_
            refine ca_ret ?_
            refine la_ret1 4 (.bool zb29) rfl (by kernel_rfl) ?_
            refine ⟨_, rfl, ?_, HBC⟩
            rw [← hzb29, ← hsame]
            simp only [decide_eq_true_eq]
            constructor
            · exact fun h => ⟨hFX, Or.inr ⟨by omega, out2, hran2, h.1, h.2⟩⟩
            · rintro ⟨-, h | ⟨-, o3, hr3, h3⟩⟩
              · exact absurd h (Begins.not hran1 (fun hh => hq7 hh))
              · rw [hran2.same hr3]
                exact h3
        · skip
          have hq7 : (decide (l.length ≤ out1.length ∧ out1.take l.length = l)) = true := by rw [hzb19]
          simp only [sB] at hq7
          refine wa_skip (some 71) (by kernel_rfl) (by kernel_rfl) ?_
          refine wa_skip (some 72) (by kernel_rfl) (by kernel_rfl) ?_
          refine wa_skip (some 73) (by kernel_rfl) (by kernel_rfl) ?_
          refine wa_skip (some 74) (by kernel_rfl) (by kernel_rfl) ?_
          refine wa_skip (some 75) (by kernel_rfl) (by kernel_rfl) ?_
          refine wa_skip (some 76) (by kernel_rfl) (by kernel_rfl) ?_
          refine wa_skip (some 77) (by kernel_rfl) (by kernel_rfl) ?_
          refine wa_skip (some 78) (by kernel_rfl) (by kernel_rfl) ?_
          refine wa_skip (some 79) (by kernel_rfl) (by kernel_rfl) ?_
          refine wa_skip (some 80) (by kernel_rfl) (by kernel_rfl) ?_
          refine wa_q (some 81) (.bool true) (by kernel_rfl) ?_
          refine wa_q (some 4) (.bool true) (by kernel_rfl) ?_
          refine wa_nil ?_
          refine la_code ?_
          refine ca_ret ?_
          refine la_ret1 4 (.bool true) rfl (by kernel_rfl) ?_
          exact ⟨_, rfl, yesB (hsame.1 ⟨hFX, Or.inl ⟨out1, hran1, hq7.1, hq7.2⟩⟩), HBC⟩
      | false =>
        have hq5 : (decide ((50 : Int) < X.length)) = false := by rw [hzc13]
        simp only [sB] at hq5
        refine ca_false (by kernel_rfl) (by kernel_rfl) ?_
        refine ca_skip ?_
        refine la_code ?_
        refine ca_seq ?_
        have HX5 : Sl intR WC (.slice AX X.length cX) (X.take 50) := by rw [List.take_of_length_le (by omega)]; exact HXS
        have hnum : ∀ n ∈ X.take 50, Num n := hFX.num
        have hx50 : (X.take 50).length ≤ 50 := by rw [List.length_take]; omega
        replace HBK := HBK.tr HBX
        replace HBC := HB1.tr HBK
        replace HX5 := HX5.keep HBX
        obtain ⟨T, hT⟩ : ∃ T, stepsE l = T := ⟨_, rfl⟩
        have hT4 : T ≤ 4000 := by rw [← hT]; have := stepsE_le l l.length; rw [List.take_length] at this; omega
        rw [hT]
        unfold RightR at hsame
        rw [hX, hT] at hsame
        refine ca_region ?_
        refine wa_q (some 65) (.slice Al l.length cl) (by kernel_rfl) ?_
        refine wa_do (some 66) (.agg #[.slice Ap ps.length cp]) (by kernel_rfl) (by kernel_rfl) (rl_pg rfl (by kernel_rfl) ((HP1.keep HBK).cell (i := 0) rfl)) ?_
        refine wa_q (some 67) (.slice AX X.length cX) (by kernel_rfl) ?_
        refine wa_call (some 68) (by kernel_rfl) (by kernel_rfl) 30 #[.agg #[.slice Ap ps.length cp], .slice AX X.length cX, .int .i64 500] (by kernel_rfl) (traceOf_any hp (hs.keep HBC) HX5 hnum (by omega) (by omega) (by omega)) ?_
        rintro r WF ⟨out1, u1, rfl, HS1, hran1, hb⟩
        obtain ⟨A1, c1, rfl, -⟩ := sl_lit HS1
        replace HBC := HBC.tr hb
        replace HBK := HBK.tr hb
        replace HX5 := HX5.keep hb
        clear hb
        refine ⟨_, rfl, ?_⟩
        have hol1 : ok64 out1.length := by have := hran1.len hp hnum (by omega); unfold ok64; omega
        obtain ⟨zb19, hzb19⟩ : ∃ b : Bool, decide (l.length ≤ out1.length ∧ out1.take l.length = l) = b := ⟨_, rfl⟩
        refine wa_sy (some 69) (.bool zb19) (by kernel_rfl) (by kernel_rfl) 78 #[.slice Al l.length cl, .slice A1 out1.length c1] (by kernel_rfl) (hzb19 ▸ beginsR_any l out1 _ _ _ (hl.keep HBC) HS1 (by unfold ok64; omega) hol1) ?_
        intro WD hb
        replace HBC := HBC.tr hb
        replace HBK := HBK.tr hb
        replace HX5 := HX5.keep hb
        clear hb
        refine wa_q (some 70) (.bool zb19) (by kernel_rfl) ?_
        cases zb19
        · skip
          have hq7 : (decide (l.length ≤ out1.length ∧ out1.take l.length = l)) = false := by rw [hzb19]
          simp only [sB] at hq7
          refine wa_q (some 71) (.int .i64 (T : Int)) (by kernel_rfl) ?_
          obtain ⟨zc15, hzc15⟩ : ∃ b : Bool, decide (((T : Int) : Int) ≤ 500) = b := ⟨_, rfl⟩
          refine wa_do (some 72) (.bool zc15) (by kernel_rfl) (by kernel_rfl) (rb_leqI (k := (T : Int)) (l := 500) rfl (by kernel_rfl) (by kernel_rfl) hzc15) ?_
          refine wa_q (some 73) (.bool zc15) (by kernel_rfl) ?_
          cases zc15
          · skip
            have hq8 : (decide (((T : Int) : Int) ≤ 500)) = false := by rw [hzc15]
            simp only [sB] at hq8
            refine wa_skip (some 74) (by kernel_rfl) (by kernel_rfl) ?_
            refine wa_skip (some 75) (by kernel_rfl) (by kernel_rfl) ?_
            refine wa_skip (some 76) (by kernel_rfl) (by kernel_rfl) ?_
            refine wa_skip (some 77) (by kernel_rfl) (by kernel_rfl) ?_
            refine wa_skip (some 78) (by kernel_rfl) (by kernel_rfl) ?_
            refine wa_skip (some 79) (by kernel_rfl) (by kernel_rfl) ?_
            refine wa_q (some 80) (.bool false) (by kernel_rfl) ?_
            refine wa_q (some 81) (.bool false) (by kernel_rfl) ?_
            refine wa_q (some 4) (.bool false) (by kernel_rfl) ?_
            refine wa_nil ?_
            refine la_code ?_
            refine ca_ret ?_
            refine la_ret1 4 (.bool false) rfl (by kernel_rfl) ?_
            exact ⟨_, rfl, noB (fun h => by
              rcases (hsame.2 h).2 with h | ⟨h5, -⟩
              · exact Begins.not hran1 (fun hh => hq7 hh) h
              · omega), HBC⟩
          · skip
            have hq8 : (decide (((T : Int) : Int) ≤ 500)) = true := by rw [hzc15]
            simp only [sB] at hq8
            refine wa_q (some 74) (.slice Al l.length cl) (by kernel_rfl) ?_
            refine wa_do (some 75) (.agg #[.slice Ap ps.length cp]) (by kernel_rfl) (by kernel_rfl) (rl_pg rfl (by kernel_rfl) ((HP1.keep HBK).cell (i := 0) rfl)) ?_
            refine wa_q (some 76) (.slice AX X.length cX) (by kernel_rfl) ?_
            refine wa_q (some 77) (.int .i64 (T : Int)) (by kernel_rfl) ?_
            refine wa_call (some 78) (by kernel_rfl) (by kernel_rfl) 30 #[.agg #[.slice Ap ps.length cp], .slice AX X.length cX, .int .i64 (T : Int)] (by kernel_rfl) (traceOf_any hp (hs.keep HBC) HX5 hnum (by omega) (by omega) (by omega)) ?_
            rintro r WF ⟨out2, u2, rfl, HS2, hran2, hb⟩
            obtain ⟨A2, c2, rfl, -⟩ := sl_lit HS2
            replace HBC := HBC.tr hb
            replace HBK := HBK.tr hb
            replace HX5 := HX5.keep hb
            clear hb
            refine ⟨_, rfl, ?_⟩
            have hol2 : ok64 out2.length := by have := hran2.len hp hnum (by omega); unfold ok64; omega
            obtain ⟨zb29, hzb29⟩ : ∃ b : Bool, decide (l.length ≤ out2.length ∧ out2.take l.length = l) = b := ⟨_, rfl⟩
            refine wa_sy (some 79) (.bool zb29) (by kernel_rfl) (by kernel_rfl) 78 #[.slice Al l.length cl, .slice A2 out2.length c2] (by kernel_rfl) (hzb29 ▸ beginsR_any l out2 _ _ _ (hl.keep HBC) HS2 (by unfold ok64; omega) hol2) ?_
            intro WD hb
            replace HBC := HBC.tr hb
            replace HBK := HBK.tr hb
            replace HX5 := HX5.keep hb
            clear hb
            refine wa_q (some 80) (.bool zb29) (by kernel_rfl) ?_
            refine wa_q (some 81) (.bool zb29) (by kernel_rfl) ?_
            refine wa_q (some 4) (.bool zb29) (by kernel_rfl) ?_
            refine wa_nil ?_
            refine la_code ?_
            refine ca_ret ?_
            refine la_ret1 4 (.bool zb29) rfl (by kernel_rfl) ?_
            refine ⟨_, rfl, ?_, HBC⟩
            rw [← hzb29, ← hsame]
            simp only [decide_eq_true_eq]
            constructor
            · exact fun h => ⟨hFX, Or.inr ⟨by omega, out2, hran2, h.1, h.2⟩⟩
            · rintro ⟨-, h | ⟨-, o3, hr3, h3⟩⟩
              · exact absurd h (Begins.not hran1 (fun hh => hq7 hh))
              · rw [hran2.same hr3]
                exact h3
        · skip
          have hq7 : (decide (l.length ≤ out1.length ∧ out1.take l.length = l)) = true := by rw [hzb19]
          simp only [sB] at hq7
          refine wa_skip (some 71) (by kernel_rfl) (by kernel_rfl) ?_
          refine wa_skip (some 72) (by kernel_rfl) (by kernel_rfl) ?_
          refine wa_skip (some 73) (by kernel_rfl) (by kernel_rfl) ?_
          refine wa_skip (some 74) (by kernel_rfl) (by kernel_rfl) ?_
          refine wa_skip (some 75) (by kernel_rfl) (by kernel_rfl) ?_
          refine wa_skip (some 76) (by kernel_rfl) (by kernel_rfl) ?_
          refine wa_skip (some 77) (by kernel_rfl) (by kernel_rfl) ?_
          refine wa_skip (some 78) (by kernel_rfl) (by kernel_rfl) ?_
          refine wa_skip (some 79) (by kernel_rfl) (by kernel_rfl) ?_
          refine wa_skip (some 80) (by kernel_rfl) (by kernel_rfl) ?_
          refine wa_q (some 81) (.bool true) (by kernel_rfl) ?_
          refine wa_q (some 4) (.bool true) (by kernel_rfl) ?_
          refine wa_nil ?_
          refine la_code ?_
          refine ca_ret ?_
          refine la_ret1 4 (.bool true) rfl (by kernel_rfl) ?_
          exact ⟨_, rfl, yesB (hsame.1 ⟨hFX, Or.inl ⟨out1, hran1, hq7.1, hq7.2⟩⟩), HBC⟩
theorem rb_eqlBB {o : Oper} {ρ : Operand → Value} {W : World} {x y : Operand} {t2 : TypeId} {k l c : Bool} (ho : o.op = .binOp .eql 4 x y t2) (hx : ρ x = .bool k) (hy : ρ y = .bool l) (hc : (k == l) = c) : (execOp ρ o).run Try.prog W = .ok (.value (.bool c)) W := by
  subst hc
  simp [execOp, ho, hx, hy, go_sem]
theorem RightIs.one {ps : List PF} {l : List Ev} {w : World} {r : Ending} {w' : World} (h : RightIs ps l w r w') : Bel w w' ∧ ∃ b, r = .returned (.tuple #[.bool b, .int .i64 (rightE ps l)]) ∧ (rightE ps l ≠ 0 → b = false) ∧ (rightE ps l = 0 → (b = true ↔ RightP ps l)) := by
  obtain ⟨hb, ⟨h0, rfl⟩ | ⟨h0, b, rfl, hi⟩⟩ := h
  · exact ⟨hb, false, rfl, fun _ => rfl, fun h => absurd h h0⟩
  · rw [h0]
    exact ⟨hb, b, rfl, fun h => absurd rfl h, fun _ => hi⟩
set_option maxRecDepth 20000 in
theorem right_law (ps : List PF) (l : List Ev) (vp vl : Value) (w : World) (hs : Sl pfR w vp ps) (hl : Sl evR w vl l) :
    Calls Try.prog 7 #[.agg #[vp], vl] w fun r w' => r = .returned (.bool true) ∧ Bel w w' := by
  obtain ⟨Ap, cp, rfl, -⟩ := sl_lit hs
  obtain ⟨Al, cl, rfl, -⟩ := sl_lit hl
  have HB1 : Bel w (w.alloc (.cells #[.slice Ap ps.length cp] PGT)) := (Bel.rfl_ w).al _
  have HP1 := Blk.new w PGT #[.slice Ap ps.length cp]
  have hRE : rightE ps l = if errP ps ≠ 0 then errP ps else if l.length > 4000 then 2 else 0 := rfl
  obtain ⟨E, hE⟩ : ∃ E, errP ps = E := ⟨_, rfl⟩
  obtain ⟨R, hR⟩ : ∃ R, rightE ps l = R := ⟨_, rfl⟩
  rw [hE, hR] at hRE
  refine af_enter (c := _) (args := [.agg #[.slice Ap ps.length cp], .slice Al l.length cl]) Try.func7 rfl Try.ntmps7 (by kernel_rfl) ?_
  refine ca_seq ?_
  refine ca_region ?_
  refine wa_w (some 2) (.pointer (some ⟨w.heap.size, 0, none⟩)) (w.alloc (.cells #[.slice Ap ps.length cp] PGT)) (by kernel_rfl) ?_
  generalize w.alloc (.cells #[.slice Ap ps.length cp] PGT) = W1 at *
  generalize w.heap.size = Q at *
  have HBC := HB1
  have HBK := Bel.rfl_ W1
  refine wa_q (some 4) (.bool false) (by kernel_rfl) ?_
  refine wa_nil ?_
  refine la_code ?_
  refine ca_seq ?_
  refine ca_region ?_
  refine wa_do (some 9) (.agg #[.slice Ap ps.length cp]) (by kernel_rfl) (by kernel_rfl) (rl_pg rfl (by kernel_rfl) ((HP1.keep HBK).cell (i := 0) rfl)) ?_
  refine wa_q (some 10) (.slice Al l.length cl) (by kernel_rfl) ?_
  refine wa_call (some 11) (by kernel_rfl) (by kernel_rfl) 31 #[.agg #[.slice Ap ps.length cp], .slice Al l.length cl] (by kernel_rfl) (right_any ps l _ _ _ (hs.keep HBC) (hl.keep HBC)) ?_
  rintro r WD hr
  obtain ⟨hb, b, rfl, hb0, hb1⟩ := hr.one
  rw [hR] at hb0 hb1
  replace HBC := HBC.tr hb
  replace HBK := HBK.tr hb
  clear hb
  refine ⟨_, by rw [hR], ?_⟩
  refine wa_q (some 8) (.tuple #[.bool b, .int .i64 R]) (by kernel_rfl) ?_
  refine wa_q (some 12) (.bool b) (by kernel_rfl) ?_
  refine wa_q (some 13) (.int .i64 R) (by kernel_rfl) ?_
  refine wa_q (some 5) (.bool b) (by kernel_rfl) ?_
  refine wa_q (some 6) (.int .i64 R) (by kernel_rfl) ?_
  refine wa_nil ?_
  refine la_code ?_
  refine ca_seq ?_
  refine ca_region ?_
  refine wa_do (some 14) (.agg #[.slice Ap ps.length cp]) (by kernel_rfl) (by kernel_rfl) (rl_pg rfl (by kernel_rfl) ((HP1.keep HBK).cell (i := 0) rfl)) ?_
  refine wa_sy (some 15) (.int .i64 E) (by kernel_rfl) (by kernel_rfl) 21 #[.agg #[.slice Ap ps.length cp]] (by kernel_rfl) (hE ▸ checkProgram_any ps _ _ (hs.keep HBC)) ?_
  intro WE hb
  replace HBC := HBC.tr hb
  replace HBK := HBK.tr hb
  clear hb
  refine wa_q (some 7) (.int .i64 E) (by kernel_rfl) ?_
  refine wa_nil ?_
  refine la_code ?_
  refine ca_seq ?_
  refine ca_seq ?_
  refine ca_region ?_
  refine wa_q (some 16) (.int .i64 E) (by kernel_rfl) ?_
  obtain ⟨zc1, hzc1⟩ : ∃ b : Bool, ((E : Int) == 0) = b := ⟨_, rfl⟩
  refine wa_do (some 17) (.bool zc1) (by kernel_rfl) (by kernel_rfl) (rb_eqlR (k := E) (l := 0) rfl (by kernel_rfl) (by kernel_rfl) hzc1) ?_
  refine wa_q (some 18) (.bool zc1) (by kernel_rfl) ?_
  refine wa_if (some 19) zc1 (.slice Al l.length cl) (by kernel_rfl) (by kernel_rfl) (by cases zc1 <;> kernel_rfl) (fun hG => by subst hG; kernel_rfl) ?_
  refine wa_if (some 20) zc1 (.int .i64 l.length) (by kernel_rfl) (by kernel_rfl) (by cases zc1 <;> kernel_rfl) (fun hG => by subst hG; kernel_rfl) ?_
  obtain ⟨zc2, hzc2⟩ : ∃ b : Bool, decide ((4000 : Int) < l.length) = b := ⟨_, rfl⟩
  refine wa_if (some 21) zc1 (.bool zc2) (by kernel_rfl) (by kernel_rfl) (by cases zc1 <;> kernel_rfl) (fun hG => by subst hG; exact rb_gtrI (k := l.length) (l := 4000) rfl (by kernel_rfl) (by kernel_rfl) hzc2) ?_
  obtain ⟨zr3, hzr3⟩ : ∃ b : Bool, (zc1 && zc2) = b := ⟨_, rfl⟩
  refine wa_do (some 22) (.bool zr3) (by kernel_rfl) (by kernel_rfl) (by subst hzr3; cases zc1 <;> (kernel_rfl)) ?_
  refine wa_nil ?_
  refine la_code ?_
  cases zr3 with
  | true =>
    have hq : ((((E : Int) == 0)) && (decide ((4000 : Int) < l.length))) = true := by rw [hzc1, hzc2, hzr3]
    simp only [sB] at hq
    refine ca_true (by kernel_rfl) (by kernel_rfl) ?_
    refine ca_region ?_
    refine wa_q (some 7) (.int .i64 2) (by kernel_rfl) ?_
    refine wa_nil ?_
    refine la_code ?_
    refine ca_seq ?_
    have hR2 : R = 2 := by rw [hRE, if_neg (by omega), if_pos (by omega)]
    obtain rfl : b = false := hb0 (by omega)
    have hk1 : ((R : Int) == 2) = true := by rw [hR2]; rfl
    refine ca_region ?_
    refine wa_sy (some 23) (.bool true) (by kernel_rfl) (by kernel_rfl) 27 #[] (by kernel_rfl) (traceBegun_any _) ?_
    intro WG hb
    replace HBC := HBC.tr hb
    replace HBK := HBK.tr hb
    clear hb
    refine wa_q (some 24) (.bool true) (by kernel_rfl) ?_
    refine wa_q (some 25) (.int .i64 R) (by kernel_rfl) ?_
    refine wa_q (some 26) (.int .i64 2) (by kernel_rfl) ?_
    refine wa_do (some 27) (.bool true) (by kernel_rfl) (by kernel_rfl) (rb_eqlR (k := R) (l := 2) rfl (by kernel_rfl) (by kernel_rfl) hk1) ?_
    refine wa_q (some 28) (.bool true) (by kernel_rfl) ?_
    refine wa_q (some 29) (.bool true) (by kernel_rfl) ?_
    refine wa_q (some 30) (.bool false) (by kernel_rfl) ?_
    refine wa_q (some 31) (.int .i64 2) (by kernel_rfl) ?_
    refine wa_q (some 32) (.bool false) (by kernel_rfl) ?_
    refine wa_q (some 33) (.bool false) (by kernel_rfl) ?_
    refine wa_skip (some 34) (by kernel_rfl) (by kernel_rfl) ?_
    refine wa_skip (some 35) (by kernel_rfl) (by kernel_rfl) ?_
    refine wa_skip (some 36) (by kernel_rfl) (by kernel_rfl) ?_
    refine wa_q (some 37) (.bool false) (by kernel_rfl) ?_
    refine wa_do (some 38) (.bool true) (by kernel_rfl) (by kernel_rfl) (rb_eqlBB (k := false) (l := false) rfl (by kernel_rfl) (by kernel_rfl) (by simp)) ?_
    refine wa_q (some 39) (.bool true) (by kernel_rfl) ?_
    refine wa_q (some 4) (.bool true) (by kernel_rfl) ?_
    refine wa_nil ?_
    refine la_code ?_
    refine ca_ret ?_
    refine la_ret1 4 (.bool true) rfl (by kernel_rfl) ?_
    exact ⟨rfl, HBC⟩
  | false =>
    have hq : ((((E : Int) == 0)) && (decide ((4000 : Int) < l.length))) = false := by rw [hzc1, hzc2, hzr3]
    simp only [sB] at hq
    refine ca_false (by kernel_rfl) (by kernel_rfl) ?_
    refine ca_skip ?_
    refine la_code ?_
    refine ca_seq ?_
    rcases Decidable.em (E = 0) with hE0 | hE0
    · skip
      have hl4 : l.length ≤ 4000 := by omega
      have hR0 : R = 0 := by rw [hRE, if_neg (by omega), if_neg (by omega)]
      have hk2 : ((E : Int) == 0) = true := by rw [hE0]; rfl
      have hk1 : ((R : Int) == E) = true := by rw [hE0, hR0]; rfl
      have hprog := errP_ok (ps := ps) (by omega)
      refine ca_region ?_
      refine wa_sy (some 23) (.bool true) (by kernel_rfl) (by kernel_rfl) 27 #[] (by kernel_rfl) (traceBegun_any _) ?_
      intro WG hb
      replace HBC := HBC.tr hb
      replace HBK := HBK.tr hb
      clear hb
      refine wa_q (some 24) (.bool true) (by kernel_rfl) ?_
      refine wa_q (some 25) (.int .i64 R) (by kernel_rfl) ?_
      refine wa_q (some 26) (.int .i64 E) (by kernel_rfl) ?_
      refine wa_do (some 27) (.bool true) (by kernel_rfl) (by kernel_rfl) (rb_eqlR (k := R) (l := E) rfl (by kernel_rfl) (by kernel_rfl) hk1) ?_
      refine wa_q (some 28) (.bool true) (by kernel_rfl) ?_
      refine wa_q (some 29) (.bool true) (by kernel_rfl) ?_
      refine wa_q (some 30) (.bool b) (by kernel_rfl) ?_
      refine wa_q (some 31) (.int .i64 E) (by kernel_rfl) ?_
      refine wa_do (some 32) (.bool true) (by kernel_rfl) (by kernel_rfl) (rb_eqlR (k := E) (l := 0) rfl (by kernel_rfl) (by kernel_rfl) hk2) ?_
      refine wa_q (some 33) (.bool true) (by kernel_rfl) ?_
      refine wa_do (some 34) (.agg #[.slice Ap ps.length cp]) (by kernel_rfl) (by kernel_rfl) (rl_pg rfl (by kernel_rfl) ((HP1.keep HBK).cell (i := 0) rfl)) ?_
      refine wa_q (some 35) (.slice Al l.length cl) (by kernel_rfl) ?_
      refine wa_call (some 36) (by kernel_rfl) (by kernel_rfl) 32 #[.agg #[.slice Ap ps.length cp], .slice Al l.length cl] (by kernel_rfl) (rightOf_any ps hprog l _ _ _ (hs.keep HBC) (hl.keep HBC) hl4) ?_
      rintro r WH ⟨b2, rfl, hb2, hb⟩
      replace HBC := HBC.tr hb
      replace HBK := HBK.tr hb
      clear hb
      obtain rfl : b = b2 := by
        have h1 := hb1 (by omega)
        cases b <;> cases b2 <;> simp_all
      refine ⟨_, rfl, ?_⟩
      refine wa_q (some 37) (.bool b) (by kernel_rfl) ?_
      refine wa_do (some 38) (.bool true) (by kernel_rfl) (by kernel_rfl) (rb_eqlBB (k := b) (l := b) rfl (by kernel_rfl) (by kernel_rfl) (by simp)) ?_
      refine wa_q (some 39) (.bool true) (by kernel_rfl) ?_
      refine wa_q (some 4) (.bool true) (by kernel_rfl) ?_
      refine wa_nil ?_
      refine la_code ?_
      refine ca_ret ?_
      refine la_ret1 4 (.bool true) rfl (by kernel_rfl) ?_
      exact ⟨rfl, HBC⟩
    · skip
      have hR0 : R = E := by rw [hRE, if_pos hE0]
      have hk2 : ((E : Int) == 0) = false := by simpa using hE0
      have hk1 : ((R : Int) == E) = true := by rw [hR0]; simp
      obtain rfl : b = false := hb0 (by omega)
      refine ca_region ?_
      refine wa_sy (some 23) (.bool true) (by kernel_rfl) (by kernel_rfl) 27 #[] (by kernel_rfl) (traceBegun_any _) ?_
      intro WG hb
      replace HBC := HBC.tr hb
      replace HBK := HBK.tr hb
      clear hb
      refine wa_q (some 24) (.bool true) (by kernel_rfl) ?_
      refine wa_q (some 25) (.int .i64 R) (by kernel_rfl) ?_
      refine wa_q (some 26) (.int .i64 E) (by kernel_rfl) ?_
      refine wa_do (some 27) (.bool true) (by kernel_rfl) (by kernel_rfl) (rb_eqlR (k := R) (l := E) rfl (by kernel_rfl) (by kernel_rfl) hk1) ?_
      refine wa_q (some 28) (.bool true) (by kernel_rfl) ?_
      refine wa_q (some 29) (.bool true) (by kernel_rfl) ?_
      refine wa_q (some 30) (.bool false) (by kernel_rfl) ?_
      refine wa_q (some 31) (.int .i64 E) (by kernel_rfl) ?_
      refine wa_do (some 32) (.bool false) (by kernel_rfl) (by kernel_rfl) (rb_eqlR (k := E) (l := 0) rfl (by kernel_rfl) (by kernel_rfl) hk2) ?_
      refine wa_q (some 33) (.bool false) (by kernel_rfl) ?_
      refine wa_skip (some 34) (by kernel_rfl) (by kernel_rfl) ?_
      refine wa_skip (some 35) (by kernel_rfl) (by kernel_rfl) ?_
      refine wa_skip (some 36) (by kernel_rfl) (by kernel_rfl) ?_
      refine wa_q (some 37) (.bool false) (by kernel_rfl) ?_
      refine wa_do (some 38) (.bool true) (by kernel_rfl) (by kernel_rfl) (rb_eqlBB (k := false) (l := false) rfl (by kernel_rfl) (by kernel_rfl) (by simp)) ?_
      refine wa_q (some 39) (.bool true) (by kernel_rfl) ?_
      refine wa_q (some 4) (.bool true) (by kernel_rfl) ?_
      refine wa_nil ?_
      refine la_code ?_
      refine ca_ret ?_
      refine la_ret1 4 (.bool true) rfl (by kernel_rfl) ?_
      exact ⟨rfl, HBC⟩
end Go.Proofs.Ytgkpplbomciehaa
