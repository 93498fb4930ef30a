/- The compiler's memory; expressions compiled: walked. Each lemma states its own conditions. -/
import Derived.Test.YtgkpplbomciehaaCdt27
import Derived.Test.YtgkpplbomciehaaCdt26
namespace Go.Proofs.Ytgkpplbomciehaa
open Go.RowKit
abbrev CPT : TypeId := 159
abbrev insC (L : List Ins) : List Value := L.flatMap Ins.cells
theorem insC_one (x : Ins) : insC [x] = [.int .i64 x.kind, .int .i64 x.a, .int .i64 x.b] := by simp [insC, Ins.cells]
theorem insC_app (a b : List Ins) : insC (a ++ b) = insC a ++ insC b := List.flatMap_append
/-- the compiler, with the instructions that it put so far -/
structure CompI (w0 : World) (q : Nat) (W : World) (L : List Ins) (vi vf vz : Value) : Prop where
  low : Bel w0 W
  lo : w0.heap.size ≤ q
  blk : Blk W q CPT #[vi, vf, vz]
  ins : W.ownsRow w0.heap.size INS 3 vi L.length (insC L)
theorem CompI.keep {w0 W W2 : World} {q : Nat} {L : List Ins} {vi vf vz : Value} (h : CompI w0 q W L vi vf vz) (hb : Bel W W2) : CompI w0 q W2 L vi vf vz :=
  ⟨Bel.trB h.low hb h.low.size, h.lo, h.blk.keep hb, hb.own h.ins⟩
section
variable {ρ : Operand → Value} {o : Oper} {W : World} {x y : Operand} {b f : Nat} {u : Value} {A : Option Addr} {n c : Nat}
theorem rs_ins (ho : o.op = .store 22 x y) (hx : ρ x = .pointer (some ⟨b, f, none⟩)) (hy : ρ y = .slice A n c) (hc : W.cell? ⟨b, f, none⟩ = some u) (hf : W.frozen? ⟨b, f, none⟩ = false) : (execOp ρ o).run Try.prog W = .ok .skip (W.setCell ⟨b, f, none⟩ (.slice A n c)) := by
  simp [execOp, ho, hx, hy, hc, hf, go_sem]
end
set_option maxRecDepth 20000 in
theorem put_code {w0 W : World} {q : Nat} {L : List Ins} {vi vf vz : Value} (x : Ins) (h : CompI w0 q W L vi vf vz) (hl : L.length ≤ 1000000) :
    Calls Try.prog 103 #[.pointer (some ⟨q, 0, none⟩), .int .i64 x.kind, .int .i64 x.a, .int .i64 x.b] W fun r W' => r = .returned (.int .i64 (L.length : Int)) ∧ (∃ vi', CompI w0 q W' (L ++ [x]) vi' vf vz) ∧ Kept [INS, CPT] w0.heap.size W.heap.size W W' := by
  obtain ⟨Ai, ci, rfl⟩ := own_shape h.ins
  refine af_enter (c := _) (args := [.pointer (some ⟨q, 0, none⟩), .int .i64 x.kind, .int .i64 x.a, .int .i64 x.b]) Try.func103 rfl Try.ntmps103 (by kernel_rfl) ?_
  refine ca_seq ?_
  refine ca_region ?_
  refine wa_q (some 8) (.int .i64 0) (by kernel_rfl) ?_
  refine wa_nil ?_
  refine la_code ?_
  refine ca_seq ?_
  refine ca_region ?_
  refine wa_q (some 9) (.pointer (some ⟨q, 0, none⟩)) (by kernel_rfl) ?_
  refine wa_q (some 10) (.pointer (some ⟨q, 0, none⟩)) (by kernel_rfl) ?_
  refine wa_q (some 11) (.pointer (some ⟨q, 0, none⟩)) (by kernel_rfl) ?_
  refine wa_q (some 12) (.pointer (some ⟨q, 0, none⟩)) (by kernel_rfl) ?_
  refine wa_q (some 13) (.pointer (some ⟨q, 0, none⟩)) (by kernel_rfl) ?_
  refine wa_do (some 14) (.slice Ai L.length ci) (by kernel_rfl) (by kernel_rfl) (rl_ins rfl (by kernel_rfl) (h.blk.cell (i := 0) rfl)) ?_
  refine wa_q (some 15) (.int .i64 x.kind) (by kernel_rfl) ?_
  refine wa_q (some 16) (.int .i64 x.a) (by kernel_rfl) ?_
  refine wa_q (some 17) (.int .i64 x.b) (by kernel_rfl) ?_
  refine wa_q (some 18) (.agg #[.int .i64 x.kind, .int .i64 x.a, .int .i64 x.b]) (by kernel_rfl) ?_
  refine wa_w (some 19) (.slice (some ⟨W.heap.size, 0, none⟩) 1 1) (W.alloc (.cells #[.int .i64 x.kind, .int .i64 x.a, .int .i64 x.b] INS)) (by kernel_rfl) ?_
  refine wa_app (some 20) W (.tmp 14) (.tmp 19) 22 (by kernel_rfl) rfl rfl w0.heap.size elIN (.slice Ai L.length ci) L.length _ (by kernel_rfl) (by kernel_rfl) h.ins [.int .i64 x.kind, .int .i64 x.a, .int .i64 x.b] (by kernel_rfl) (by kernel_rfl) rfl (ins_one x) (by simp only [maxLen]; omega) (by omega) h.low.size ?_
  intro g6 cap6 w6 ho6 hg6 _
  have hK6 : Kept [INS, CPT] w0.heap.size W.heap.size W w6 := Kept.grown h.ins (by decide) hg6 h.low.size
  have hB6 := h.blk.grown hg6 (Blk.ne_own h.blk h.ins (by decide))
  have hL6 : Bel w0 w6 := Below.grown h.low hg6 h.low.size (fun k hk => (h.ins.lt k hk).1)
  refine wa_q (some 21) (.pointer (some ⟨q, 0, none⟩)) (by kernel_rfl) ?_
  refine wa_q (some 22) (.pointer (some ⟨q, 0, none⟩)) (by kernel_rfl) ?_
  refine wa_q (some 23) (.pointer (some ⟨q, 0, none⟩)) (by kernel_rfl) ?_
  refine wa_st none (by kernel_rfl) (by kernel_rfl) (rs_ins (A := some ⟨g6, 0, none⟩) (n := L.length + 1) (c := cap6) rfl (by kernel_rfl) (by kernel_rfl) (hB6.cell (i := 0) rfl) (hB6.frozen 0)) ?_
  have HC : CompI w0 q (w6.setCell ⟨q, 0, none⟩ (.slice (some ⟨g6, 0, none⟩) (L.length + 1) cap6)) (L ++ [x]) (.slice (some ⟨g6, 0, none⟩) (L.length + 1) cap6) vf vz :=
    ⟨hL6.setCell (p := ⟨q, 0, none⟩) h.lo _, h.lo, hB6.set_ 0 _, by rw [List.length_append, insC_app, insC_one]; exact own_set ho6 hB6 (by decide) _ _⟩
  have hK7 := hK6.tr ((Kept.set_ty (lo := w6.heap.size) hB6 h.lo (by decide) 0 (.slice (some ⟨g6, 0, none⟩) (L.length + 1) cap6)).mono hK6.size)
  generalize w6.setCell ⟨q, 0, none⟩ (.slice (some ⟨g6, 0, none⟩) (L.length + 1) cap6) = W7 at *
  refine wa_nil ?_
  refine la_code ?_
  refine ca_seq ?_
  refine ca_region ?_
  refine wa_q (some 24) (.pointer (some ⟨q, 0, none⟩)) (by kernel_rfl) ?_
  refine wa_q (some 25) (.pointer (some ⟨q, 0, none⟩)) (by kernel_rfl) ?_
  refine wa_q (some 26) (.pointer (some ⟨q, 0, none⟩)) (by kernel_rfl) ?_
  refine wa_q (some 27) (.pointer (some ⟨q, 0, none⟩)) (by kernel_rfl) ?_
  refine wa_do (some 28) (.slice (some ⟨g6, 0, none⟩) (L.length + 1) cap6) (by kernel_rfl) (by kernel_rfl) (rl_ins rfl (by kernel_rfl) (HC.blk.cell (i := 0) rfl)) ?_
  refine wa_q (some 29) (.int .i64 (L.length + 1)) (by kernel_rfl) ?_
  refine wa_do (some 30) (.int .i64 (L.length : Int)) (by kernel_rfl) (by kernel_rfl) (rb_subI (k := (L.length + 1)) (l := 1) rfl (by kernel_rfl) (by kernel_rfl) (by omega) (by omega) (by omega)) ?_
  refine wa_q (some 8) (.int .i64 (L.length : Int)) (by kernel_rfl) ?_
  refine wa_nil ?_
  refine la_code ?_
  refine ca_ret ?_
  refine la_ret1 8 (.int .i64 (L.length : Int)) rfl (by kernel_rfl) ?_
  exact ⟨rfl, ⟨_, HC⟩, hK7⟩
theorem here_code {w0 W : World} {q : Nat} {L : List Ins} {vi vf vz : Value} (h : CompI w0 q W L vi vf vz) :
    Calls Try.prog 100 #[.pointer (some ⟨q, 0, none⟩)] W fun r W' => r = .returned (.int .i64 (L.length : Int)) ∧ W = W' := by
  obtain ⟨Ai, ci, rfl⟩ := own_shape h.ins
  refine af_enter (c := _) (args := [.pointer (some ⟨q, 0, none⟩)]) Try.func100 rfl Try.ntmps100 (by kernel_rfl) ?_
  refine ca_seq ?_
  refine ca_region ?_
  refine wa_q (some 2) (.int .i64 0) (by kernel_rfl) ?_
  refine wa_nil ?_
  refine la_code ?_
  refine ca_seq ?_
  refine ca_region ?_
  refine wa_q (some 3) (.pointer (some ⟨q, 0, none⟩)) (by kernel_rfl) ?_
  refine wa_q (some 4) (.pointer (some ⟨q, 0, none⟩)) (by kernel_rfl) ?_
  refine wa_q (some 5) (.pointer (some ⟨q, 0, none⟩)) (by kernel_rfl) ?_
  refine wa_q (some 6) (.pointer (some ⟨q, 0, none⟩)) (by kernel_rfl) ?_
  refine wa_do (some 7) (.slice Ai L.length ci) (by kernel_rfl) (by kernel_rfl) (rl_ins rfl (by kernel_rfl) (h.blk.cell (i := 0) rfl)) ?_
  refine wa_q (some 8) (.int .i64 L.length) (by kernel_rfl) ?_
  refine wa_q (some 2) (.int .i64 L.length) (by kernel_rfl) ?_
  refine wa_nil ?_
  refine la_code ?_
  refine ca_ret ?_
  refine la_ret1 2 (.int .i64 L.length) rfl (by kernel_rfl) ?_
  exact ⟨rfl, rfl⟩
def ExprC (e : PE) : Prop := ∀ (w0 W : World) (q : Nat) (L : List Ins) (vi vf vz : Value) (cs : List Value), CompI w0 q W L vi vf vz → peR.R w0 cs e → L.length + e.comp.length ≤ 1000000 →
  Calls Try.prog 104 #[.pointer (some ⟨q, 0, none⟩), .agg cs.toArray] W fun r W' => r = .returned (.tuple #[]) ∧ (∃ vi', CompI w0 q W' (L ++ e.comp) vi' vf vz) ∧ Kept [INS, CPT] w0.heap.size W.heap.size W W'
theorem partP_two {z : List Int} {k n : Int} {args : List PE} (h : partP z (.mk k n args) = 0) : (k = 1 → args = []) ∧ (k = 2 → args = []) ∧ (k = 3 → ∃ x, args = [x]) ∧ (k ≠ 1 → k ≠ 2 → k ≠ 3 → ∃ x y, args = [x, y]) := by
  unfold partP at h
  split at h
  · omega
  split at h
  · omega
  rename_i h1 h2
  have h2 : (args.length : Int) = arityE k := Decidable.not_not.1 h2
  have h1 : ¬ arityE k < 0 := h1
  unfold arityE at h1 h2
  have h0 : ∀ l : List PE, (l.length : Int) = 0 → l = [] := fun l hl => List.length_eq_zero_iff.1 (by omega)
  refine ⟨fun hk => ?_, fun hk => ?_, fun hk => ?_, fun ha hb hc => ?_⟩
  all_goals (
    rcases args with _ | ⟨x, _ | ⟨y, _ | ⟨u, l⟩⟩⟩ <;> simp at h2 ⊢ <;> (try (repeat' split at h2)) <;> (try omega))
set_option maxRecDepth 20000 in
theorem expr_code (z : List Int) : ∀ e : PE, e.parts z = 0 → ExprC e := PE.ind fun k n args ih hpt w0 W q L vi vf vz cs h hr hlen => by
  obtain ⟨hP, hA⟩ := PE.parts_ok hpt
  obtain ⟨H1, H2, H3, H4⟩ := partP_two hP
  obtain ⟨va, rfl, hsa⟩ := PER.opened hr
  obtain ⟨Aa, ca, rfl, -⟩ := sl_lit hsa
  have hcomp : (PE.mk k n args).comp = compA args ++ [lastI k n] := by rw [PE.comp]
  rw [hcomp] at hlen ⊢
  rw [List.length_append, List.length_singleton] at hlen
  have HQ := h.blk
  refine af_enter (c := _) (args := [.pointer (some ⟨q, 0, none⟩), .agg #[.int .i64 k, .int .i64 n, .slice Aa args.length ca]]) Try.func104 rfl Try.ntmps104 (by kernel_rfl) ?_
  refine ca_seq ?_
  refine ca_region ?_
  refine wa_w (some 3) (.pointer (some ⟨W.heap.size, 0, none⟩)) (W.alloc (.cells #[.int .i64 k, .int .i64 n, .slice Aa args.length ca] 47)) (by kernel_rfl) ?_
  have hb1 := (Bel.rfl_ W).al (.cells #[.int .i64 k, .int .i64 n, .slice Aa args.length ca] 47)
  have HX0 := Blk.new W 47 #[.int .i64 k, .int .i64 n, .slice Aa args.length ca]
  have HC := h.keep hb1
  have HK : Kept [INS, CPT] w0.heap.size W.heap.size W _ := Kept.bel hb1 h.low.size
  have hxs : W.heap.size < (W.alloc (.cells #[.int .i64 k, .int .i64 n, .slice Aa args.length ca] 47)).heap.size := HX0.lt
  generalize W.alloc (.cells #[.int .i64 k, .int .i64 n, .slice Aa args.length ca] 47) = W1 at *
  generalize hxb : W.heap.size = xb at *
  have HX : ∀ W2, Kept [INS, CPT] w0.heap.size W1.heap.size W1 W2 → Blk W2 xb 47 #[.int .i64 k, .int .i64 n, .slice Aa args.length ca] := fun W2 hk => HX0.kept hk hxs (by decide)
  have HK1 := Kept.rfl_ [INS, CPT] w0.heap.size W1.heap.size W1
  refine wa_nil ?_
  refine la_code ?_
  refine ca_seq ?_
  refine ca_region ?_
  refine wa_q (some 4) (.pointer (some ⟨xb, 0, none⟩)) (by kernel_rfl) ?_
  refine wa_do (some 5) (.int .i64 k) (by kernel_rfl) (by kernel_rfl) (rl_int rfl (by kernel_rfl) ((HX _ HK1).cell (i := 0) rfl)) ?_
  refine wa_nil ?_
  refine la_code ?_
  refine ca_block ?_
  refine ca_seq ?_
  refine ca_region ?_
  obtain ⟨zc1, hzc1⟩ : ∃ b : Bool, ((k : Int) == 1) = b := ⟨_, rfl⟩
  refine wa_do (some 23) (.bool zc1) (by kernel_rfl) (by kernel_rfl) (rb_eqlI (k := k) (l := 1) rfl (by kernel_rfl) (by kernel_rfl) hzc1) ?_
  refine wa_q (some 22) (.bool zc1) (by kernel_rfl) ?_
  refine wa_nil ?_
  refine la_code ?_
  cases zc1 with
  | true =>
    have hq1 : (((k : Int) == 1)) = true := by rw [hzc1]
    simp only [sB] at hq1
    have hargs := H1 hq1
    rw [hargs] at hlen
    rw [hargs]
    refine ca_true (by kernel_rfl) (by kernel_rfl) ?_
    refine ca_region ?_
    refine wa_q (some 24) (.pointer (some ⟨q, 0, none⟩)) (by kernel_rfl) ?_
    refine wa_q (some 25) (.pointer (some ⟨xb, 1, none⟩)) (by kernel_rfl) ?_
    refine wa_do (some 26) (.int .i64 n) (by kernel_rfl) (by kernel_rfl) (rl_int rfl (by kernel_rfl) ((HX _ HK1).cell (i := 1) rfl)) ?_
    refine wa_call (some 27) (by kernel_rfl) (by kernel_rfl) 103 #[.pointer (some ⟨q, 0, none⟩), .int .i64 2, .int .i64 n, .int .i64 0] (by kernel_rfl) (put_code ⟨2, n, 0⟩ HC (by omega)) ?_
    rintro r WD ⟨rfl, ⟨vi2, HC2⟩, hk⟩
    replace HC := HC2
    replace HK1 := HK1.tr (hk.mono HK1.size)
    clear HC2 hk
    refine ⟨_, rfl, ?_⟩
    refine wa_nil ?_
    refine la_block_normal ?_
    refine la_end0 rfl ?_
    have hKK := HK.tr (HK1.mono (by omega))
    have hlast : lastI k n = ⟨2, n, 0⟩ := by unfold lastI; rw [if_pos (by omega)]
    rw [hlast]
    exact ⟨rfl, ⟨_, by simpa [compA, List.append_assoc] using HC⟩, hKK⟩
  | false =>
    have hq1 : (((k : Int) == 1)) = false := by rw [hzc1]
    simp only [sB] at hq1
    refine ca_false (by kernel_rfl) (by kernel_rfl) ?_
    refine ca_seq ?_
    refine ca_region ?_
    obtain ⟨zc2, hzc2⟩ : ∃ b : Bool, ((k : Int) == 2) = b := ⟨_, rfl⟩
    refine wa_do (some 29) (.bool zc2) (by kernel_rfl) (by kernel_rfl) (rb_eqlI (k := k) (l := 2) rfl (by kernel_rfl) (by kernel_rfl) hzc2) ?_
    refine wa_q (some 28) (.bool zc2) (by kernel_rfl) ?_
    refine wa_nil ?_
    refine la_code ?_
    cases zc2 with
    | true =>
      have hq2 : (((k : Int) == 2)) = true := by rw [hzc2]
      simp only [sB] at hq2
      have hargs := H2 hq2
      rw [hargs] at hlen
      rw [hargs]
      refine ca_true (by kernel_rfl) (by kernel_rfl) ?_
      refine ca_region ?_
      refine wa_q (some 30) (.pointer (some ⟨q, 0, none⟩)) (by kernel_rfl) ?_
      refine wa_q (some 31) (.pointer (some ⟨xb, 1, none⟩)) (by kernel_rfl) ?_
      refine wa_do (some 32) (.int .i64 n) (by kernel_rfl) (by kernel_rfl) (rl_int rfl (by kernel_rfl) ((HX _ HK1).cell (i := 1) rfl)) ?_
      refine wa_call (some 33) (by kernel_rfl) (by kernel_rfl) 103 #[.pointer (some ⟨q, 0, none⟩), .int .i64 3, .int .i64 n, .int .i64 0] (by kernel_rfl) (put_code ⟨3, n, 0⟩ HC (by omega)) ?_
      rintro r WD ⟨rfl, ⟨vi2, HC2⟩, hk⟩
      replace HC := HC2
      replace HK1 := HK1.tr (hk.mono HK1.size)
      clear HC2 hk
      refine ⟨_, rfl, ?_⟩
      refine wa_nil ?_
      refine la_block_normal ?_
      refine la_end0 rfl ?_
      have hKK := HK.tr (HK1.mono (by omega))
      have hlast : lastI k n = ⟨3, n, 0⟩ := by unfold lastI; rw [if_neg (by omega), if_pos (by omega)]
      rw [hlast]
      exact ⟨rfl, ⟨_, by simpa [compA, List.append_assoc] using HC⟩, hKK⟩
    | false =>
      have hq2 : (((k : Int) == 2)) = false := by rw [hzc2]
      simp only [sB] at hq2
      refine ca_false (by kernel_rfl) (by kernel_rfl) ?_
      refine ca_seq ?_
      refine ca_region ?_
      obtain ⟨zc3, hzc3⟩ : ∃ b : Bool, ((k : Int) == 3) = b := ⟨_, rfl⟩
      refine wa_do (some 35) (.bool zc3) (by kernel_rfl) (by kernel_rfl) (rb_eqlI (k := k) (l := 3) rfl (by kernel_rfl) (by kernel_rfl) hzc3) ?_
      refine wa_q (some 34) (.bool zc3) (by kernel_rfl) ?_
      refine wa_nil ?_
      refine la_code ?_
      cases zc3 with
      | true =>
        have hq3 : (((k : Int) == 3)) = true := by rw [hzc3]
        simp only [sB] at hq3
        obtain ⟨x, hargs⟩ := H3 hq3
        obtain ⟨ba, oa, cs0, rfl, HCS0, hca0⟩ := hsa.elem (k := 0) (x := x) (by rw [hargs]; rfl)
        have hE0 := ih x (by rw [hargs]; simp) (hA x (by rw [hargs]; simp))
        have hcA : compA args = x.comp := by rw [hargs, compA, compA, List.append_nil]
        rw [hcA] at hlen ⊢
        refine ca_true (by kernel_rfl) (by kernel_rfl) ?_
        refine ca_seq ?_
        refine ca_region ?_
        refine wa_q (some 36) (.pointer (some ⟨q, 0, none⟩)) (by kernel_rfl) ?_
        refine wa_q (some 37) (.pointer (some ⟨xb, 2, none⟩)) (by kernel_rfl) ?_
        refine wa_do (some 38) (.slice (some ⟨ba, oa, none⟩) args.length ca) (by kernel_rfl) (by kernel_rfl) (rl_es rfl (by kernel_rfl) ((HX _ HK1).cell (i := 2) rfl)) ?_
        refine wa_do (some 39) (.pointer (some ⟨ba, oa + 0 * 3, none⟩)) (by kernel_rfl) (by kernel_rfl) (run_ix elPE ba oa args.length ca 0 rfl (by kernel_rfl) (by kernel_rfl) (by rw [hargs]; simp)) ?_
        refine wa_do (some 40) (.agg cs0.toArray) (by kernel_rfl) (by kernel_rfl) (run_loadRow 47 (.tmp 39) rfl elPE ba (oa + 0 * 3) (by kernel_rfl) cs0 (fun i u hu => Bel.cell HC.low (hca0 i u hu)) (peR.len HCS0) (by kernel_rfl)) ?_
        refine wa_call (some 41) (by kernel_rfl) (by kernel_rfl) 104 #[.pointer (some ⟨q, 0, none⟩), .agg cs0.toArray] (by kernel_rfl) (hE0 _ _ q _ _ _ _ _ HC HCS0 (by omega)) ?_
        rintro r WD ⟨rfl, ⟨vi2, HC2⟩, hk⟩
        replace HC := HC2
        replace HK1 := HK1.tr (hk.mono HK1.size)
        clear HC2 hk
        refine ⟨_, rfl, ?_⟩
        refine wa_nil ?_
        refine la_code ?_
        refine ca_region ?_
        refine wa_q (some 42) (.pointer (some ⟨q, 0, none⟩)) (by kernel_rfl) ?_
        refine wa_q (some 43) (.pointer (some ⟨xb, 1, none⟩)) (by kernel_rfl) ?_
        refine wa_do (some 44) (.int .i64 n) (by kernel_rfl) (by kernel_rfl) (rl_int rfl (by kernel_rfl) ((HX _ HK1).cell (i := 1) rfl)) ?_
        refine wa_call (some 45) (by kernel_rfl) (by kernel_rfl) 103 #[.pointer (some ⟨q, 0, none⟩), .int .i64 4, .int .i64 n, .int .i64 0] (by kernel_rfl) (put_code ⟨4, n, 0⟩ HC (by rw [List.length_append]; omega)) ?_
        rintro r WD ⟨rfl, ⟨vi2, HC2⟩, hk⟩
        replace HC := HC2
        replace HK1 := HK1.tr (hk.mono HK1.size)
        clear HC2 hk
        refine ⟨_, rfl, ?_⟩
        refine wa_nil ?_
        refine la_block_normal ?_
        refine la_end0 rfl ?_
        have hKK := HK.tr (HK1.mono (by omega))
        have hlast : lastI k n = ⟨4, n, 0⟩ := by unfold lastI; rw [if_neg (by omega), if_neg (by omega), if_pos (by omega)]
        rw [hlast]
        exact ⟨rfl, ⟨_, by simpa [compA, List.append_assoc] using HC⟩, hKK⟩
      | false =>
        have hq3 : (((k : Int) == 3)) = false := by rw [hzc3]
        simp only [sB] at hq3
        obtain ⟨x, y, hargs⟩ := H4 hq1 hq2 hq3
        obtain ⟨ba, oa, cs0, rfl, HCS0, hca0⟩ := hsa.elem (k := 0) (x := x) (by rw [hargs]; rfl)
        obtain ⟨b1, o1, cs1, he1, HCS1, hca1⟩ := hsa.elem (k := 1) (x := y) (by rw [hargs]; rfl)
        injection he1 with he1
        injection he1 with e1 e2 _
        subst e1 e2
        have hE0 := ih x (by rw [hargs]; simp) (hA x (by rw [hargs]; simp))
        have hE1 := ih y (by rw [hargs]; simp) (hA y (by rw [hargs]; simp))
        have hcA : compA args = x.comp ++ y.comp := by rw [hargs, compA, compA, compA, List.append_nil]
        rw [hcA] at hlen ⊢
        rw [List.length_append] at hlen
        refine ca_false (by kernel_rfl) (by kernel_rfl) ?_
        refine ca_seq ?_
        refine ca_region ?_
        refine wa_q (some 6) (.pointer (some ⟨q, 0, none⟩)) (by kernel_rfl) ?_
        refine wa_q (some 7) (.pointer (some ⟨xb, 2, none⟩)) (by kernel_rfl) ?_
        refine wa_do (some 8) (.slice (some ⟨ba, oa, none⟩) args.length ca) (by kernel_rfl) (by kernel_rfl) (rl_es rfl (by kernel_rfl) ((HX _ HK1).cell (i := 2) rfl)) ?_
        refine wa_do (some 9) (.pointer (some ⟨ba, oa + 0 * 3, none⟩)) (by kernel_rfl) (by kernel_rfl) (run_ix elPE ba oa args.length ca 0 rfl (by kernel_rfl) (by kernel_rfl) (by rw [hargs]; simp)) ?_
        refine wa_do (some 10) (.agg cs0.toArray) (by kernel_rfl) (by kernel_rfl) (run_loadRow 47 (.tmp 9) rfl elPE ba (oa + 0 * 3) (by kernel_rfl) cs0 (fun i u hu => Bel.cell HC.low (hca0 i u hu)) (peR.len HCS0) (by kernel_rfl)) ?_
        refine wa_call (some 11) (by kernel_rfl) (by kernel_rfl) 104 #[.pointer (some ⟨q, 0, none⟩), .agg cs0.toArray] (by kernel_rfl) (hE0 _ _ q _ _ _ _ _ HC HCS0 (by omega)) ?_
        rintro r WD ⟨rfl, ⟨vi2, HC2⟩, hk⟩
        replace HC := HC2
        replace HK1 := HK1.tr (hk.mono HK1.size)
        clear HC2 hk
        refine ⟨_, rfl, ?_⟩
        refine wa_nil ?_
        refine la_code ?_
        refine ca_seq ?_
        refine ca_region ?_
        refine wa_q (some 12) (.pointer (some ⟨q, 0, none⟩)) (by kernel_rfl) ?_
        refine wa_q (some 13) (.pointer (some ⟨xb, 2, none⟩)) (by kernel_rfl) ?_
        refine wa_do (some 14) (.slice (some ⟨ba, oa, none⟩) args.length ca) (by kernel_rfl) (by kernel_rfl) (rl_es rfl (by kernel_rfl) ((HX _ HK1).cell (i := 2) rfl)) ?_
        refine wa_do (some 15) (.pointer (some ⟨ba, oa + 1 * 3, none⟩)) (by kernel_rfl) (by kernel_rfl) (run_ix elPE ba oa args.length ca 1 rfl (by kernel_rfl) (by kernel_rfl) (by rw [hargs]; simp)) ?_
        refine wa_do (some 16) (.agg cs1.toArray) (by kernel_rfl) (by kernel_rfl) (run_loadRow 47 (.tmp 15) rfl elPE ba (oa + 1 * 3) (by kernel_rfl) cs1 (fun i u hu => Bel.cell HC.low (hca1 i u hu)) (peR.len HCS1) (by kernel_rfl)) ?_
        refine wa_call (some 17) (by kernel_rfl) (by kernel_rfl) 104 #[.pointer (some ⟨q, 0, none⟩), .agg cs1.toArray] (by kernel_rfl) (hE1 _ _ q _ _ _ _ _ HC HCS1 (by rw [List.length_append]; omega)) ?_
        rintro r WD ⟨rfl, ⟨vi2, HC2⟩, hk⟩
        replace HC := HC2
        replace HK1 := HK1.tr (hk.mono HK1.size)
        clear HC2 hk
        refine ⟨_, rfl, ?_⟩
        refine wa_nil ?_
        refine la_code ?_
        refine ca_region ?_
        refine wa_q (some 18) (.pointer (some ⟨q, 0, none⟩)) (by kernel_rfl) ?_
        refine wa_q (some 19) (.pointer (some ⟨xb, 0, none⟩)) (by kernel_rfl) ?_
        refine wa_do (some 20) (.int .i64 k) (by kernel_rfl) (by kernel_rfl) (rl_int rfl (by kernel_rfl) ((HX _ HK1).cell (i := 0) rfl)) ?_
        refine wa_call (some 21) (by kernel_rfl) (by kernel_rfl) 103 #[.pointer (some ⟨q, 0, none⟩), .int .i64 5, .int .i64 k, .int .i64 0] (by kernel_rfl) (put_code ⟨5, k, 0⟩ HC (by rw [List.length_append, List.length_append]; omega)) ?_
        rintro r WD ⟨rfl, ⟨vi2, HC2⟩, hk⟩
        replace HC := HC2
        replace HK1 := HK1.tr (hk.mono HK1.size)
        clear HC2 hk
        refine ⟨_, rfl, ?_⟩
        refine wa_nil ?_
        refine la_block_normal ?_
        refine la_end0 rfl ?_
        have hKK := HK.tr (HK1.mono (by omega))
        have hlast : lastI k n = ⟨5, k, 0⟩ := by unfold lastI; rw [if_neg (by omega), if_neg (by omega), if_neg (by omega)]
        rw [hlast]
        exact ⟨rfl, ⟨_, by simpa [compA, List.append_assoc] using HC⟩, hKK⟩
end Go.Proofs.Ytgkpplbomciehaa
