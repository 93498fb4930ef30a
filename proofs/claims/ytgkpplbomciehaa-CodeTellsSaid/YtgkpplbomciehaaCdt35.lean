/- A program is checked by the document: walked. Each lemma states its own conditions. -/
import Derived.Test.YtgkpplbomciehaaCdt25
namespace Go.Proofs.Ytgkpplbomciehaa
open Go.RowKit
/-- how many commands there are in so many functions, as the document counts -/
def msum (ps : List PF) (i : Nat) : Int := ((ps.take i).map fun f => manyR f.cmds 1).sum
theorem sum_snoc (l : List Int) (x : Int) : (l ++ [x]).sum = l.sum + x := by
  induction l with
  | nil => simp
  | cons y l ih => rw [List.cons_append, List.sum_cons, List.sum_cons, ih]; omega
theorem msum_snoc {ps : List PF} {i : Nat} {g : PF} (h : ps[i]? = some g) : msum ps (i + 1) = msum ps i + manyR g.cmds 1 := by
  unfold msum
  rw [take_snoc h, List.map_append, List.map_singleton, sum_snoc]
theorem msum_in (ps : List PF) : ∀ i, 0 ≤ msum ps i ∧ msum ps i ≤ 41 * i
  | 0 => by unfold msum; simp
  | i + 1 => by
    have ih := msum_in ps i
    cases h : ps[i]? with
    | none =>
      have h1 := List.getElem?_eq_none_iff.1 h
      have : msum ps (i + 1) = msum ps i := by unfold msum; rw [List.take_of_length_le (by omega), List.take_of_length_le (by omega)]
      omega
    | some g =>
      have := msum_snoc h
      have := manyR_in g.cmds 1
      omega
theorem many_sum : ∀ ps : List PF, (ps.all (fun f => fineP f.cmds 1) = true → (ps.map fun f => manyR f.cmds 1).sum = ((ps.map fun f => cntP f.cmds).sum : Nat) ∨ (40 < (ps.map fun f => manyR f.cmds 1).sum ∧ 40 < (ps.map fun f => cntP f.cmds).sum)) ∧ (ps.all (fun f => fineP f.cmds 1) = false → 40 < (ps.map fun f => manyR f.cmds 1).sum) ∧ 0 ≤ (ps.map fun f => manyR f.cmds 1).sum
  | [] => ⟨fun _ => Or.inl rfl, fun h => Bool.noConfusion h, Int.le_refl _⟩
  | g :: ps => by
    obtain ⟨h1, h2, h3⟩ := many_sum ps
    have h4 := manyR_in g.cmds 1
    obtain ⟨h5, h6⟩ := manyR_fine g.cmds
    simp only [List.all_cons, List.map_cons, List.sum_cons]
    refine ⟨fun h => ?_, fun h => ?_, by omega⟩
    · rw [Bool.and_eq_true] at h
      have a := h5 h.1
      have b := h1 h.2
      omega
    · rw [Bool.and_eq_false_iff] at h
      rcases h with h | h
      · have := h6 h
        omega
      · have := h2 h
        omega
theorem many_err {ps : List PF} (h6 : ps.length ≤ 6) : 40 < msum ps ps.length ↔ (6 < ps.length ∨ ps.all (fun f => fineP f.cmds 1) = false ∨ 40 < (ps.map fun f => cntP f.cmds).sum) := by
  obtain ⟨h1, h2, h3⟩ := many_sum ps
  unfold msum
  rw [List.take_length]
  cases hb : ps.all (fun f => fineP f.cmds 1) with
  | true =>
    have := h1 hb
    simp only [Bool.true_eq_false, false_or]
    omega
  | false =>
    have := h2 hb
    simp only [true_or, or_true, iff_true]
    omega
theorem errFs_cut {pms : List Int} {ps : List PF} {i : Nat} {g : PF} (h : ps[i]? = some g) : errFs pms i (ps.drop i) = orE (g.err pms ((if i + 1 = ps.length then i else i + 1 : Nat) : Int) (decide (i + 1 = ps.length))) (errFs pms (i + 1) (ps.drop (i + 1))) := by
  obtain ⟨hl, rfl⟩ := List.getElem?_eq_some_iff.1 h
  rw [List.drop_eq_getElem_cons hl]
  by_cases he : i + 1 = ps.length
  · rw [if_pos he, decide_eq_true he, List.drop_eq_nil_of_le (by omega), errFs, errFs, orE_zero]
  · rw [if_neg he, decide_eq_false he]
    cases hd : ps.drop (i + 1) with
    | nil => have := List.drop_eq_nil_iff.1 hd; omega
    | cons f l => rw [errFs]
theorem all_snoc {l : List Int} {i : Nat} {x : Int} {p : Int → Bool} (hx : l[i]? = some x) : (l.take (i + 1)).all p = ((l.take i).all p && p x) := by
  rw [take_snoc hx, List.all_append]
  simp
theorem all_not {l : List Int} {x : Int} {i : Nat} {p : Int → Bool} (hx : l[i]? = some x) (h : p x = false) : l.all p = false := by
  rw [List.all_eq_false]
  exact ⟨x, List.mem_of_getElem? hx, by rw [h]; decide⟩
set_option maxRecDepth 20000 in
set_option maxHeartbeats 16000000 in
theorem checkProgram_any (ps : List PF) (vp : Value) (w : World) (hp : Sl pfR w vp ps) : Calls Try.prog 21 #[.agg #[vp]] w fun r w' => r = .returned (.int .i64 (errP ps)) ∧ Bel w w' := by
  obtain ⟨Ap, cp, rfl, hlp⟩ := sl_lit hp
  have HB1 : Bel w (w.alloc (.cells #[.slice Ap ps.length cp] PGT)) := (Bel.rfl_ w).al _
  have HP1 := Blk.new w PGT #[.slice Ap ps.length cp]
  obtain ⟨T, hT⟩ : ∃ T, errP ps = T := ⟨_, rfl⟩
  rw [hT]
  unfold errP at hT
  refine af_enter (c := _) (args := [.agg #[.slice Ap ps.length cp]]) Try.func21 rfl Try.ntmps21 (by kernel_rfl) ?_
  refine ca_seq ?_
  refine ca_region ?_
  refine wa_w (some 1) (.pointer (some ⟨w.heap.size, 0, none⟩)) (w.alloc (.cells #[.slice Ap ps.length cp] PGT)) (by kernel_rfl) ?_
  refine wa_q (some 2) (.int .i64 0) (by kernel_rfl) ?_
  refine wa_nil ?_
  generalize w.alloc (.cells #[.slice Ap ps.length cp] PGT) = W1 at *
  generalize hQ : w.heap.size = Q at *
  clear hQ
  have HBC := Bel.rfl_ W1
  refine la_code ?_
  refine ca_seq ?_
  refine ca_region ?_
  refine wa_q (some 12) (.pointer (some ⟨Q, 0, none⟩)) (by kernel_rfl) ?_
  refine wa_do (some 13) (.slice Ap ps.length cp) (by kernel_rfl) (by kernel_rfl) (rl_fs rfl (by kernel_rfl) ((HP1.keep HBC).cell (i := 0) (v := .slice Ap ps.length cp) rfl)) ?_
  refine wa_q (some 14) (.int .i64 ps.length) (by kernel_rfl) ?_
  refine wa_q (some 3) (.int .i64 ps.length) (by kernel_rfl) ?_
  refine wa_nil ?_
  refine la_code ?_
  refine ca_seq ?_
  refine ca_seq ?_
  refine ca_region ?_
  refine wa_q (some 15) (.int .i64 ps.length) (by kernel_rfl) ?_
  obtain ⟨zc1, hzc1⟩ : ∃ b : Bool, ((ps.length : Int) == 0) = b := ⟨_, rfl⟩
  refine wa_do (some 16) (.bool zc1) (by kernel_rfl) (by kernel_rfl) (rb_eqlI (k := ps.length) (l := 0) rfl (by kernel_rfl) (by kernel_rfl) hzc1) ?_
  refine wa_nil ?_
  refine la_code ?_
  cases zc1 with
  | true =>
    have hq : (((ps.length : Int) == 0)) = true := by rw [hzc1]
    simp only [sB] at hq
    have HT0 : T = 1 := by rw [← hT, if_pos (by omega)]
    refine ca_true (by kernel_rfl) (by kernel_rfl) ?_
    refine ca_seq ?_
    refine ca_region ?_
    refine wa_q (some 2) (.int .i64 1) (by kernel_rfl) ?_
    refine wa_nil ?_
    refine la_code ?_
    refine ca_ret ?_
    refine la_then_ret ?_
    refine la_ret1 2 (.int .i64 1) rfl (by kernel_rfl) ?_
    exact ⟨by rw [HT0], HB1.tr HBC⟩
  | false =>
    have hq : (((ps.length : Int) == 0)) = false := by rw [hzc1]
    simp only [sB] at hq
    rw [if_neg (by omega)] at hT
    refine ca_false (by kernel_rfl) (by kernel_rfl) ?_
    refine ca_skip ?_
    refine la_code ?_
    refine ca_seq ?_
    refine ca_seq ?_
    refine ca_region ?_
    refine wa_q (some 17) (.int .i64 ps.length) (by kernel_rfl) ?_
    obtain ⟨zc2, hzc2⟩ : ∃ b : Bool, decide ((6 : Int) < ps.length) = b := ⟨_, rfl⟩
    refine wa_do (some 18) (.bool zc2) (by kernel_rfl) (by kernel_rfl) (rb_gtrI (k := ps.length) (l := 6) rfl (by kernel_rfl) (by kernel_rfl) hzc2) ?_
    refine wa_nil ?_
    refine la_code ?_
    cases zc2 with
    | true =>
      have hq : (decide ((6 : Int) < ps.length)) = true := by rw [hzc2]
      simp only [sB] at hq
      have HT0 : T = 2 := by rw [← hT, if_pos (Or.inl (by omega))]
      refine ca_true (by kernel_rfl) (by kernel_rfl) ?_
      refine ca_seq ?_
      refine ca_region ?_
      refine wa_q (some 2) (.int .i64 2) (by kernel_rfl) ?_
      refine wa_nil ?_
      refine la_code ?_
      refine ca_ret ?_
      refine la_then_ret ?_
      refine la_ret1 2 (.int .i64 2) rfl (by kernel_rfl) ?_
      exact ⟨by rw [HT0], HB1.tr HBC⟩
    | false =>
      have hq : (decide ((6 : Int) < ps.length)) = false := by rw [hzc2]
      simp only [sB] at hq
      have hp6 : ps.length ≤ 6 := by omega
      refine ca_false (by kernel_rfl) (by kernel_rfl) ?_
      refine ca_skip ?_
      refine la_code ?_
      refine ca_seq ?_
      refine ca_region ?_
      refine wa_q (some 4) (.int .i64 0) (by kernel_rfl) ?_
      refine wa_nil ?_
      refine la_code ?_
      refine ca_seq ?_
      refine ca_seq ?_
      refine ca_region ?_
      refine wa_q (some 5) (.int .i64 0) (by kernel_rfl) ?_
      refine wa_nil ?_
      refine la_code ?_
      refine ca_block ?_
      refine ca_loop (α := Nat) (fun i W => i ≤ ps.length ∧ Bel W1 W) (fun i => [(1, .pointer (some ⟨Q, 0, none⟩)), (3, .int .i64 ps.length), (4, .int .i64 (msum ps i)), (5, .int .i64 (i : Int))]) (fun i => ps.length - i) 0 [1, 3, 4, 5] (by kernel_rfl) ⟨Nat.zero_le _, HBC⟩ ?_
      clear HBC
      rintro i WC ⟨hi, HBC⟩
      have hms := msum_in ps i
      refine ca_seq ?_
      refine ca_seq ?_
      refine ca_region ?_
      refine wa_q (some 19) (.int .i64 (i : Int)) (by kernel_rfl) ?_
      refine wa_q (some 20) (.int .i64 ps.length) (by kernel_rfl) ?_
      obtain ⟨zc3, hzc3⟩ : ∃ b : Bool, decide (((i : Int) : Int) < ps.length) = b := ⟨_, rfl⟩
      refine wa_do (some 21) (.bool zc3) (by kernel_rfl) (by kernel_rfl) (rb_lssI (k := (i : Int)) (l := ps.length) rfl (by kernel_rfl) (by kernel_rfl) hzc3) ?_
      refine wa_nil ?_
      refine la_code ?_
      cases zc3 with
      | true =>
        have hq : (decide (((i : Int) : Int) < ps.length)) = true := by rw [hzc3]
        simp only [sB] at hq
        have hil : i < ps.length := by omega
        obtain ⟨g, hgg⟩ : ∃ g, ps[i]? = some g := ⟨_, List.getElem?_eq_getElem hil⟩
        obtain ⟨bp, op, cs, rfl, HCS, hca0⟩ := hp.elem hgg
        obtain ⟨vz, vc, vr, rfl, hsz, hsc, hsr⟩ := HCS
        obtain ⟨Ac, cc, rfl, -⟩ := sl_lit hsc
        have hcac : WC.cell? ⟨bp, op + i * 6 + 2, none⟩ = some (.slice Ac g.cmds.length cc) := (HB1.tr HBC).cell (hca0 2 _ rfl)
        have hmr := manyR_in g.cmds 1
        refine ca_true (by kernel_rfl) (by kernel_rfl) ?_
        refine ca_skip ?_
        refine la_code ?_
        refine ca_seq ?_
        refine ca_block ?_
        refine ca_region ?_
        refine wa_q (some 24) (.int .i64 (msum ps i)) (by kernel_rfl) ?_
        refine wa_q (some 25) (.pointer (some ⟨Q, 0, none⟩)) (by kernel_rfl) ?_
        refine wa_do (some 26) (.slice (some ⟨bp, op, none⟩) ps.length cp) (by kernel_rfl) (by kernel_rfl) (rl_fs rfl (by kernel_rfl) ((HP1.keep HBC).cell (i := 0) (v := .slice (some ⟨bp, op, none⟩) ps.length cp) rfl)) ?_
        refine wa_q (some 27) (.int .i64 (i : Int)) (by kernel_rfl) ?_
        refine wa_do (some 28) (.pointer (some ⟨bp, op + i * 6, none⟩)) (by kernel_rfl) (by kernel_rfl) (run_ix elPF bp op ps.length cp i rfl (by kernel_rfl) (by kernel_rfl) hil) ?_
        refine wa_q (some 29) (.pointer (some ⟨bp, op + i * 6 + 2, none⟩)) (by kernel_rfl) ?_
        refine wa_do (some 30) (.slice Ac g.cmds.length cc) (by kernel_rfl) (by kernel_rfl) (rl_cs rfl (by kernel_rfl) hcac) ?_
        refine wa_sy (some 31) (.int .i64 (manyR g.cmds 1)) (by kernel_rfl) (by kernel_rfl) 54 #[.slice Ac g.cmds.length cc, .int .i64 1] (by kernel_rfl) (manyCmds_any g.cmds 1 _ _ (by decide) (by decide) (hsc.keep (HB1.tr HBC))) ?_
        intro WC hb
        replace HBC := HBC.tr hb
        clear hb
        refine wa_do (some 32) (.int .i64 (((msum ps i) : Int) + (manyR g.cmds 1))) (by kernel_rfl) (by kernel_rfl) (rb_add64 (k := (msum ps i)) (l := (manyR g.cmds 1)) rfl (by kernel_rfl) (by kernel_rfl) (by omega) (by omega) rfl) ?_
        refine wa_q (some 4) (.int .i64 (((msum ps i) : Int) + (manyR g.cmds 1))) (by kernel_rfl) ?_
        refine wa_nil ?_
        refine la_block_normal ?_
        refine la_code ?_
        refine ca_region ?_
        refine wa_q (some 22) (.int .i64 (i : Int)) (by kernel_rfl) ?_
        refine wa_do (some 23) (.int .i64 (((i : Int) : Int) + 1)) (by kernel_rfl) (by kernel_rfl) (rb_add64 (k := (i : Int)) (l := 1) rfl (by kernel_rfl) (by kernel_rfl) (by omega) (by omega) rfl) ?_
        refine wa_q (some 5) (.int .i64 (((i : Int) : Int) + 1)) (by kernel_rfl) ?_
        refine wa_nil ?_
        have hE := msum_snoc hgg
        refine la_meet (i + 1) [1, 3, 4, 5] (by rw [hE]; kernel_rfl) ⟨⟨by omega, HBC⟩, by omega⟩
      | false =>
        have hq : (decide (((i : Int) : Int) < ps.length)) = false := by rw [hzc3]
        simp only [sB] at hq
        have hi2 : i = ps.length := by omega
        have hME : 40 < msum ps i ↔ (6 < ps.length ∨ ps.all (fun f => fineP f.cmds 1) = false ∨ 40 < (ps.map fun f => cntP f.cmds).sum) := by rw [hi2]; exact many_err hp6
        clear hi hi2
        refine ca_false (by kernel_rfl) (by kernel_rfl) ?_
        refine ca_exit ?_
        refine la_then_exit ?_
        refine la_then_exit ?_
        refine la_block_hit ?_
        refine la_code ?_
        refine ca_seq ?_
        refine ca_seq ?_
        refine ca_region ?_
        refine wa_q (some 33) (.int .i64 (msum ps i)) (by kernel_rfl) ?_
        obtain ⟨zc4, hzc4⟩ : ∃ b : Bool, decide ((40 : Int) < (msum ps i)) = b := ⟨_, rfl⟩
        refine wa_do (some 34) (.bool zc4) (by kernel_rfl) (by kernel_rfl) (rb_gtrI (k := (msum ps i)) (l := 40) rfl (by kernel_rfl) (by kernel_rfl) hzc4) ?_
        refine wa_nil ?_
        refine la_code ?_
        cases zc4 with
        | true =>
          have hq : (decide ((40 : Int) < (msum ps i))) = true := by rw [hzc4]
          simp only [sB] at hq
          have HT0 : T = 2 := by rw [← hT, if_pos (hME.1 (by omega))]
          refine ca_true (by kernel_rfl) (by kernel_rfl) ?_
          refine ca_seq ?_
          refine ca_region ?_
          refine wa_q (some 2) (.int .i64 2) (by kernel_rfl) ?_
          refine wa_nil ?_
          refine la_code ?_
          refine ca_ret ?_
          refine la_then_ret ?_
          refine la_ret1 2 (.int .i64 2) rfl (by kernel_rfl) ?_
          exact ⟨by rw [HT0], HB1.tr HBC⟩
        | false =>
          have hq : (decide ((40 : Int) < (msum ps i))) = false := by rw [hzc4]
          simp only [sB] at hq
          rw [if_neg (fun h => absurd (hME.2 h) (by omega))] at hT
          have HE0 : errFs (ps.map PF.params) 0 (ps.drop 0) = T := by rw [← hT]; rfl
          clear hT hms hME
          refine ca_false (by kernel_rfl) (by kernel_rfl) ?_
          refine ca_skip ?_
          refine la_code ?_
          refine ca_seq ?_
          refine ca_seq ?_
          refine ca_region ?_
          refine wa_q (some 6) (.int .i64 0) (by kernel_rfl) ?_
          refine wa_nil ?_
          refine la_code ?_
          refine ca_block ?_
          refine ca_loop (α := Nat) (fun i W => i ≤ ps.length ∧ errFs (ps.map PF.params) i (ps.drop i) = T ∧ Bel W1 W) (fun i => [(1, .pointer (some ⟨Q, 0, none⟩)), (3, .int .i64 ps.length), (6, .int .i64 (i : Int))]) (fun i => ps.length - i) 0 [1, 3, 6] (by kernel_rfl) ⟨Nat.zero_le _, HE0, HBC⟩ ?_
          clear HBC HE0
          rintro i WC ⟨hi, HE, HBC⟩
          refine ca_seq ?_
          refine ca_seq ?_
          refine ca_region ?_
          refine wa_q (some 35) (.int .i64 (i : Int)) (by kernel_rfl) ?_
          refine wa_q (some 36) (.int .i64 ps.length) (by kernel_rfl) ?_
          obtain ⟨zc5, hzc5⟩ : ∃ b : Bool, decide (((i : Int) : Int) < ps.length) = b := ⟨_, rfl⟩
          refine wa_do (some 37) (.bool zc5) (by kernel_rfl) (by kernel_rfl) (rb_lssI (k := (i : Int)) (l := ps.length) rfl (by kernel_rfl) (by kernel_rfl) hzc5) ?_
          refine wa_nil ?_
          refine la_code ?_
          cases zc5 with
          | true =>
            have hq : (decide (((i : Int) : Int) < ps.length)) = true := by rw [hzc5]
            simp only [sB] at hq
            have hil : i < ps.length := by omega
            obtain ⟨g, hgg⟩ : ∃ g, ps[i]? = some g := ⟨_, List.getElem?_eq_getElem hil⟩
            obtain ⟨bp, op, cs, rfl, HCS, hca0⟩ := hp.elem hgg
            have hca := hca0.keep (HB1.tr HBC)
            have HX := errFs_cut (pms := ps.map PF.params) hgg
            rw [HE] at HX
            refine ca_true (by kernel_rfl) (by kernel_rfl) ?_
            refine ca_skip ?_
            refine la_code ?_
            refine ca_seq ?_
            refine ca_block ?_
            refine ca_seq ?_
            refine ca_region ?_
            refine wa_q (some 40) (.pointer (some ⟨Q, 0, none⟩)) (by kernel_rfl) ?_
            refine wa_do (some 41) (.slice (some ⟨bp, op, none⟩) ps.length cp) (by kernel_rfl) (by kernel_rfl) (rl_fs rfl (by kernel_rfl) ((HP1.keep HBC).cell (i := 0) (v := .slice (some ⟨bp, op, none⟩) ps.length cp) rfl)) ?_
            refine wa_q (some 42) (.int .i64 (i : Int)) (by kernel_rfl) ?_
            refine wa_do (some 43) (.pointer (some ⟨bp, op + i * 6, none⟩)) (by kernel_rfl) (by kernel_rfl) (run_ix elPF bp op ps.length cp i rfl (by kernel_rfl) (by kernel_rfl) hil) ?_
            refine wa_copy FNT (.tmp 43) 44 7 ⟨rfl, rfl, rfl⟩ ⟨rfl, rfl, rfl⟩ ⟨rfl, rfl, rfl⟩ rfl bp (op + i * 6) (by kernel_rfl) (by kernel_rfl) cs hca elPF (by kernel_rfl) (pfR.len HCS) (pfR_one HCS) ?_
            refine wa_nil ?_
            have HBA := (Bel.rfl_ WC).al (.cells cs.toArray FNT)
            have HGB := Blk.new WC FNT cs.toArray
            obtain ⟨vz, vc, vr, hq, HZ, HCM, HRS⟩ := HCS
            obtain ⟨Az, cz, rfl, hlz⟩ := sl_lit HZ
            obtain ⟨Ac, cc, rfl, -⟩ := sl_lit HCM
            obtain ⟨Ar, cr, rfl, -⟩ := sl_lit HRS
            have HRX : PEV w g.result (.agg #[.int .i64 g.result.kind, .int .i64 g.result.n, .slice Ar g.result.args.length cr]) := ⟨_, rfl, HRS⟩
            subst hq
            replace HBC := HBC.tr HBA
            generalize hWK : WC.alloc _ = WK at *
            clear hWK
            generalize WC.heap.size = G at *
            have HBG := HB1.tr HBC
            have HBD := Bel.rfl_ WK
            obtain ⟨main, hmn⟩ : ∃ b : Bool, b = decide (i + 1 = ps.length) := ⟨_, rfl⟩
            obtain ⟨cl, hcln⟩ : ∃ c : Int, c = ((if i + 1 = ps.length then i else i + 1 : Nat) : Int) := ⟨_, rfl⟩
            rw [← hmn, ← hcln] at HX
            have hcl0 : 0 ≤ cl := by omega
            have hcl1 : cl ≤ ps.length := by rw [hcln]; split <;> omega
            obtain ⟨F, hF⟩ : ∃ F, g.err (ps.map PF.params) cl main = F := ⟨_, rfl⟩
            rw [hF] at HX
            unfold PF.err at hF
            have HRET := fun (v : Int) (h : F = v) (hv : v ≠ 0) => show T = v by rw [HX, h, orE_n hv]
            refine la_code ?_
            refine ca_seq ?_
            refine ca_seq ?_
            refine ca_region ?_
            refine wa_q (some 45) (.pointer (some ⟨G, 0, none⟩)) (by kernel_rfl) ?_
            refine wa_do (some 46) (.int .i64 g.params) (by kernel_rfl) (by kernel_rfl) (rl_int rfl (by kernel_rfl) ((HGB.keep HBD).cell (i := 0) (v := .int .i64 g.params) rfl)) ?_
            obtain ⟨zc6, hzc6⟩ : ∃ b : Bool, decide ((g.params : Int) < 0) = b := ⟨_, rfl⟩
            refine wa_do (some 47) (.bool zc6) (by kernel_rfl) (by kernel_rfl) (rb_lssI (k := g.params) (l := 0) rfl (by kernel_rfl) (by kernel_rfl) hzc6) ?_
            refine wa_q (some 48) (.bool zc6) (by kernel_rfl) ?_
            obtain ⟨zg7, hzg7⟩ : ∃ b : Bool, b = (!zc6) := ⟨_, rfl⟩
            refine wa_if (some 49) zg7 (.pointer (some ⟨G, 0, none⟩)) (by kernel_rfl) (by kernel_rfl) (by subst hzg7; cases zc6 <;> kernel_rfl) (fun hG => by subst hzg7; obtain rfl : zc6 = false := (by revert hG; cases zc6 <;> simp); kernel_rfl) ?_
            refine wa_if (some 50) zg7 (.int .i64 g.params) (by kernel_rfl) (by kernel_rfl) (by subst hzg7; cases zc6 <;> kernel_rfl) (fun hG => by subst hzg7; obtain rfl : zc6 = false := (by revert hG; cases zc6 <;> simp); exact rl_int rfl (by kernel_rfl) ((HGB.keep HBD).cell (i := 0) (v := .int .i64 g.params) rfl)) ?_
            refine wa_if (some 51) zg7 (.pointer (some ⟨G, 1, none⟩)) (by kernel_rfl) (by kernel_rfl) (by subst hzg7; cases zc6 <;> kernel_rfl) (fun hG => by subst hzg7; obtain rfl : zc6 = false := (by revert hG; cases zc6 <;> simp); kernel_rfl) ?_
            refine wa_if (some 52) zg7 (.slice Az g.sizes.length cz) (by kernel_rfl) (by kernel_rfl) (by subst hzg7; cases zc6 <;> kernel_rfl) (fun hG => by subst hzg7; obtain rfl : zc6 = false := (by revert hG; cases zc6 <;> simp); exact rl_is rfl (by kernel_rfl) ((HGB.keep HBD).cell (i := 1) (v := .slice Az g.sizes.length cz) rfl)) ?_
            refine wa_if (some 53) zg7 (.int .i64 g.sizes.length) (by kernel_rfl) (by kernel_rfl) (by subst hzg7; cases zc6 <;> kernel_rfl) (fun hG => by subst hzg7; obtain rfl : zc6 = false := (by revert hG; cases zc6 <;> simp); kernel_rfl) ?_
            obtain ⟨zc8, hzc8⟩ : ∃ b : Bool, decide ((g.sizes.length : Int) < g.params) = b := ⟨_, rfl⟩
            refine wa_if (some 54) zg7 (.bool zc8) (by kernel_rfl) (by kernel_rfl) (by subst hzg7; cases zc6 <;> kernel_rfl) (fun hG => by subst hzg7; obtain rfl : zc6 = false := (by revert hG; cases zc6 <;> simp); exact rb_gtrI (k := g.params) (l := g.sizes.length) rfl (by kernel_rfl) (by kernel_rfl) hzc8) ?_
            obtain ⟨zr9, hzr9⟩ : ∃ b : Bool, (zc6 || zc8) = b := ⟨_, rfl⟩
            refine wa_do (some 55) (.bool zr9) (by kernel_rfl) (by kernel_rfl) (by subst hzr9; cases zc6 <;> (subst hzg7; kernel_rfl)) ?_
            refine wa_nil ?_
            refine la_code ?_
            cases zr9 with
            | true =>
              have hq : ((decide ((g.params : Int) < 0)) || (decide ((g.sizes.length : Int) < g.params))) = true := by rw [hzc6, hzc8, hzr9]
              simp only [sB] at hq
              have HT0 : T = 3 := HRET 3 (by rw [← hF, if_pos (by omega)]) (by decide)
              refine ca_true (by kernel_rfl) (by kernel_rfl) ?_
              refine ca_seq ?_
              refine ca_region ?_
              refine wa_q (some 2) (.int .i64 3) (by kernel_rfl) ?_
              refine wa_nil ?_
              refine la_code ?_
              refine ca_ret ?_
              refine la_then_ret ?_
              refine la_block_ret ?_
              refine la_then_ret ?_
              refine la_then_ret ?_
              refine la_block_ret ?_
              refine la_then_ret ?_
              refine la_ret1 2 (.int .i64 3) rfl (by kernel_rfl) ?_
              exact ⟨by rw [HT0], HBG.tr HBD⟩
            | false =>
              have hq : ((decide ((g.params : Int) < 0)) || (decide ((g.sizes.length : Int) < g.params))) = false := by rw [hzc6, hzc8, hzr9]
              simp only [sB] at hq
              rw [if_neg (by omega)] at hF
              refine ca_false (by kernel_rfl) (by kernel_rfl) ?_
              refine ca_skip ?_
              refine la_code ?_
              refine ca_seq ?_
              refine ca_seq ?_
              refine ca_region ?_
              refine wa_q (some 56) (.pointer (some ⟨G, 0, none⟩)) (by kernel_rfl) ?_
              refine wa_do (some 57) (.int .i64 g.params) (by kernel_rfl) (by kernel_rfl) (rl_int rfl (by kernel_rfl) ((HGB.keep HBD).cell (i := 0) (v := .int .i64 g.params) rfl)) ?_
              obtain ⟨zc10, hzc10⟩ : ∃ b : Bool, decide ((3 : Int) < g.params) = b := ⟨_, rfl⟩
              refine wa_do (some 58) (.bool zc10) (by kernel_rfl) (by kernel_rfl) (rb_gtrI (k := g.params) (l := 3) rfl (by kernel_rfl) (by kernel_rfl) hzc10) ?_
              refine wa_q (some 59) (.bool zc10) (by kernel_rfl) ?_
              obtain ⟨zg11, hzg11⟩ : ∃ b : Bool, b = (!zc10) := ⟨_, rfl⟩
              refine wa_if (some 60) zg11 (.pointer (some ⟨G, 1, none⟩)) (by kernel_rfl) (by kernel_rfl) (by subst hzg11; cases zc10 <;> kernel_rfl) (fun hG => by subst hzg11; obtain rfl : zc10 = false := (by revert hG; cases zc10 <;> simp); kernel_rfl) ?_
              refine wa_if (some 61) zg11 (.slice Az g.sizes.length cz) (by kernel_rfl) (by kernel_rfl) (by subst hzg11; cases zc10 <;> kernel_rfl) (fun hG => by subst hzg11; obtain rfl : zc10 = false := (by revert hG; cases zc10 <;> simp); exact rl_is rfl (by kernel_rfl) ((HGB.keep HBD).cell (i := 1) (v := .slice Az g.sizes.length cz) rfl)) ?_
              refine wa_if (some 62) zg11 (.int .i64 g.sizes.length) (by kernel_rfl) (by kernel_rfl) (by subst hzg11; cases zc10 <;> kernel_rfl) (fun hG => by subst hzg11; obtain rfl : zc10 = false := (by revert hG; cases zc10 <;> simp); kernel_rfl) ?_
              refine wa_if (some 63) zg11 (.pointer (some ⟨G, 0, none⟩)) (by kernel_rfl) (by kernel_rfl) (by subst hzg11; cases zc10 <;> kernel_rfl) (fun hG => by subst hzg11; obtain rfl : zc10 = false := (by revert hG; cases zc10 <;> simp); kernel_rfl) ?_
              refine wa_if (some 64) zg11 (.int .i64 g.params) (by kernel_rfl) (by kernel_rfl) (by subst hzg11; cases zc10 <;> kernel_rfl) (fun hG => by subst hzg11; obtain rfl : zc10 = false := (by revert hG; cases zc10 <;> simp); exact rl_int rfl (by kernel_rfl) ((HGB.keep HBD).cell (i := 0) (v := .int .i64 g.params) rfl)) ?_
              refine wa_if (some 65) zg11 (.int .i64 ((g.sizes.length : Int) - g.params)) (by kernel_rfl) (by kernel_rfl) (by subst hzg11; cases zc10 <;> kernel_rfl) (fun hG => by subst hzg11; obtain rfl : zc10 = false := (by revert hG; cases zc10 <;> simp); exact rb_subI (k := g.sizes.length) (l := g.params) rfl (by kernel_rfl) (by kernel_rfl) (by omega) (by omega) rfl) ?_
              obtain ⟨zc12, hzc12⟩ : ∃ b : Bool, decide ((6 : Int) < ((g.sizes.length : Int) - g.params)) = b := ⟨_, rfl⟩
              refine wa_if (some 66) zg11 (.bool zc12) (by kernel_rfl) (by kernel_rfl) (by subst hzg11; cases zc10 <;> kernel_rfl) (fun hG => by subst hzg11; obtain rfl : zc10 = false := (by revert hG; cases zc10 <;> simp); exact rb_gtrI (k := ((g.sizes.length : Int) - g.params)) (l := 6) rfl (by kernel_rfl) (by kernel_rfl) hzc12) ?_
              obtain ⟨zr13, hzr13⟩ : ∃ b : Bool, (zc10 || zc12) = b := ⟨_, rfl⟩
              refine wa_do (some 67) (.bool zr13) (by kernel_rfl) (by kernel_rfl) (by subst hzr13; cases zc10 <;> (subst hzg11; kernel_rfl)) ?_
              refine wa_nil ?_
              refine la_code ?_
              cases zr13 with
              | true =>
                have hq : ((decide ((3 : Int) < g.params)) || (decide ((6 : Int) < ((g.sizes.length : Int) - g.params)))) = true := by rw [hzc10, hzc12, hzr13]
                simp only [sB] at hq
                have HT0 : T = 2 := HRET 2 (by rw [← hF, if_pos (by omega)]) (by decide)
                refine ca_true (by kernel_rfl) (by kernel_rfl) ?_
                refine ca_seq ?_
                refine ca_region ?_
                refine wa_q (some 2) (.int .i64 2) (by kernel_rfl) ?_
                refine wa_nil ?_
                refine la_code ?_
                refine ca_ret ?_
                refine la_then_ret ?_
                refine la_block_ret ?_
                refine la_then_ret ?_
                refine la_then_ret ?_
                refine la_block_ret ?_
                refine la_then_ret ?_
                refine la_ret1 2 (.int .i64 2) rfl (by kernel_rfl) ?_
                exact ⟨by rw [HT0], HBG.tr HBD⟩
              | false =>
                have hq : ((decide ((3 : Int) < g.params)) || (decide ((6 : Int) < ((g.sizes.length : Int) - g.params)))) = false := by rw [hzc10, hzc12, hzr13]
                simp only [sB] at hq
                rw [if_neg (by omega)] at hF
                refine ca_false (by kernel_rfl) (by kernel_rfl) ?_
                refine ca_skip ?_
                refine la_code ?_
                refine ca_seq ?_
                refine ca_seq ?_
                refine ca_region ?_
                refine wa_q (some 8) (.int .i64 0) (by kernel_rfl) ?_
                refine wa_nil ?_
                refine la_code ?_
                refine ca_block ?_
                refine ca_loop (α := Nat) (fun k W => k ≤ g.sizes.length ∧ (g.sizes.take k).all (fun n => decide (0 ≤ n ∧ n ≤ 8)) = true ∧ Bel WK W) (fun k => [(1, .pointer (some ⟨Q, 0, none⟩)), (3, .int .i64 ps.length), (6, .int .i64 (i : Int)), (7, .pointer (some ⟨G, 0, none⟩)), (8, .int .i64 (k : Int))]) (fun k => g.sizes.length - k) 0 [1, 3, 6, 7, 8] (by kernel_rfl) ⟨Nat.zero_le _, by simp, HBD⟩ ?_
                clear HBD
                rintro k WC ⟨hk, hka, HBD⟩
                refine ca_seq ?_
                refine ca_seq ?_
                refine ca_region ?_
                refine wa_q (some 68) (.int .i64 (k : Int)) (by kernel_rfl) ?_
                refine wa_q (some 69) (.pointer (some ⟨G, 1, none⟩)) (by kernel_rfl) ?_
                refine wa_do (some 70) (.slice Az g.sizes.length cz) (by kernel_rfl) (by kernel_rfl) (rl_is rfl (by kernel_rfl) ((HGB.keep HBD).cell (i := 1) (v := .slice Az g.sizes.length cz) rfl)) ?_
                refine wa_q (some 71) (.int .i64 g.sizes.length) (by kernel_rfl) ?_
                obtain ⟨zc14, hzc14⟩ : ∃ b : Bool, decide (((k : Int) : Int) < g.sizes.length) = b := ⟨_, rfl⟩
                refine wa_do (some 72) (.bool zc14) (by kernel_rfl) (by kernel_rfl) (rb_lssI (k := (k : Int)) (l := g.sizes.length) rfl (by kernel_rfl) (by kernel_rfl) hzc14) ?_
                refine wa_nil ?_
                refine la_code ?_
                cases zc14 with
                | true =>
                  have hq : (decide (((k : Int) : Int) < g.sizes.length)) = true := by rw [hzc14]
                  simp only [sB] at hq
                  have hkl : k < g.sizes.length := by omega
                  obtain ⟨y, hy⟩ : ∃ y, g.sizes[k]? = some y := ⟨_, List.getElem?_eq_getElem hkl⟩
                  obtain ⟨bz, oz, rfl, hcz⟩ := vars_cell HZ hy
                  have hyc := (HBG.tr HBD).cell hcz
                  refine ca_true (by kernel_rfl) (by kernel_rfl) ?_
                  refine ca_skip ?_
                  refine la_code ?_
                  refine ca_seq ?_
                  refine ca_block ?_
                  refine ca_seq ?_
                  refine ca_region ?_
                  refine wa_q (some 75) (.pointer (some ⟨G, 1, none⟩)) (by kernel_rfl) ?_
                  refine wa_do (some 76) (.slice (some ⟨bz, oz, none⟩) g.sizes.length cz) (by kernel_rfl) (by kernel_rfl) (rl_is rfl (by kernel_rfl) ((HGB.keep HBD).cell (i := 1) (v := .slice (some ⟨bz, oz, none⟩) g.sizes.length cz) rfl)) ?_
                  refine wa_q (some 77) (.int .i64 (k : Int)) (by kernel_rfl) ?_
                  refine wa_do (some 78) (.pointer (some ⟨bz, oz + k, none⟩)) (by kernel_rfl) (by kernel_rfl) (run_ix1 elI bz oz g.sizes.length cz k rfl (by kernel_rfl) (by kernel_rfl) hkl) ?_
                  refine wa_do (some 79) (.int .i64 y) (by kernel_rfl) (by kernel_rfl) (rl_int rfl (by kernel_rfl) hyc) ?_
                  obtain ⟨zb15, hzb15⟩ : ∃ b : Bool, decide ((0 : Int) ≤ y ∧ (y : Int) ≤ 8) = b := ⟨_, rfl⟩
                  refine wa_sy (some 80) (.bool zb15) (by kernel_rfl) (by kernel_rfl) 48 #[.int .i64 y, .int .i64 0, .int .i64 8] (by kernel_rfl) (keepBt hzb15) ?_
                  intro WC hb
                  replace HBD := HBD.tr hb
                  clear hb
                  obtain ⟨zr16, hzr16⟩ : ∃ b : Bool, (!zb15) = b := ⟨_, rfl⟩
                  refine wa_do (some 81) (.bool zr16) (by kernel_rfl) (by kernel_rfl) (by subst hzr16; kernel_rfl) ?_
                  refine wa_nil ?_
                  refine la_code ?_
                  cases zr16 with
                  | true =>
                    have hq : (!(decide ((0 : Int) ≤ y ∧ (y : Int) ≤ 8))) = true := by rw [hzb15, hzr16]
                    simp only [sB] at hq
                    have HT0 : T = 3 := HRET 3 (by rw [← hF, if_pos (all_not hy (decide_eq_false (by omega)))]) (by decide)
                    refine ca_true (by kernel_rfl) (by kernel_rfl) ?_
                    refine ca_seq ?_
                    refine ca_region ?_
                    refine wa_q (some 2) (.int .i64 3) (by kernel_rfl) ?_
                    refine wa_nil ?_
                    refine la_code ?_
                    refine ca_ret ?_
                    refine la_block_ret ?_
                    refine la_then_ret ?_
                    refine la_then_ret ?_
                    refine la_block_ret ?_
                    refine la_then_ret ?_
                    refine la_block_ret ?_
                    refine la_then_ret ?_
                    refine la_then_ret ?_
                    refine la_block_ret ?_
                    refine la_then_ret ?_
                    refine la_ret1 2 (.int .i64 3) rfl (by kernel_rfl) ?_
                    exact ⟨by rw [HT0], HBG.tr HBD⟩
                  | false =>
                    have hq : (!(decide ((0 : Int) ≤ y ∧ (y : Int) ≤ 8))) = false := by rw [hzb15, hzr16]
                    simp only [sB] at hq
                    refine ca_false (by kernel_rfl) (by kernel_rfl) ?_
                    refine ca_skip ?_
                    refine la_block_normal ?_
                    refine la_code ?_
                    refine ca_region ?_
                    refine wa_q (some 73) (.int .i64 (k : Int)) (by kernel_rfl) ?_
                    refine wa_do (some 74) (.int .i64 (((k : Int) : Int) + 1)) (by kernel_rfl) (by kernel_rfl) (rb_add64 (k := (k : Int)) (l := 1) rfl (by kernel_rfl) (by kernel_rfl) (by omega) (by omega) rfl) ?_
                    refine wa_q (some 8) (.int .i64 (((k : Int) : Int) + 1)) (by kernel_rfl) ?_
                    refine wa_nil ?_
                    refine la_meet (k + 1) [1, 3, 6, 7, 8] (by kernel_rfl) ⟨⟨by omega, by rw [all_snoc hy, hka, decide_eq_true (by omega)]; rfl, HBD⟩, by omega⟩
                | false =>
                  have hq : (decide (((k : Int) : Int) < g.sizes.length)) = false := by rw [hzc14]
                  simp only [sB] at hq
                  have hk2 : k = g.sizes.length := by omega
                  rw [hk2, List.take_length] at hka
                  rw [if_neg (by rw [hka]; decide)] at hF
                  clear hka hk hk2
                  refine ca_false (by kernel_rfl) (by kernel_rfl) ?_
                  refine ca_exit ?_
                  refine la_then_exit ?_
                  refine la_then_exit ?_
                  refine la_block_hit ?_
                  refine la_code ?_
                  refine ca_seq ?_
                  refine ca_seq ?_
                  refine ca_region ?_
                  refine wa_q (some 9) (.int .i64 0) (by kernel_rfl) ?_
                  refine wa_nil ?_
                  refine la_code ?_
                  refine ca_block ?_
                  refine ca_loop (α := Nat) (fun k W => (k : Int) ≤ g.params ∧ (g.sizes.take k).all (fun n => decide (n = 0)) = true ∧ Bel WK W) (fun k => [(1, .pointer (some ⟨Q, 0, none⟩)), (3, .int .i64 ps.length), (6, .int .i64 (i : Int)), (7, .pointer (some ⟨G, 0, none⟩)), (9, .int .i64 (k : Int))]) (fun k => g.params.toNat - k) 0 [1, 3, 6, 7, 9] (by kernel_rfl) ⟨by omega, by simp, HBD⟩ ?_
                  clear HBD
                  rintro k WC ⟨hk, hka, HBD⟩
                  refine ca_seq ?_
                  refine ca_seq ?_
                  refine ca_region ?_
                  refine wa_q (some 82) (.int .i64 (k : Int)) (by kernel_rfl) ?_
                  refine wa_q (some 83) (.pointer (some ⟨G, 0, none⟩)) (by kernel_rfl) ?_
                  refine wa_do (some 84) (.int .i64 g.params) (by kernel_rfl) (by kernel_rfl) (rl_int rfl (by kernel_rfl) ((HGB.keep HBD).cell (i := 0) (v := .int .i64 g.params) rfl)) ?_
                  obtain ⟨zc17, hzc17⟩ : ∃ b : Bool, decide (((k : Int) : Int) < g.params) = b := ⟨_, rfl⟩
                  refine wa_do (some 85) (.bool zc17) (by kernel_rfl) (by kernel_rfl) (rb_lssI (k := (k : Int)) (l := g.params) rfl (by kernel_rfl) (by kernel_rfl) hzc17) ?_
                  refine wa_nil ?_
                  refine la_code ?_
                  cases zc17 with
                  | true =>
                    have hq : (decide (((k : Int) : Int) < g.params)) = true := by rw [hzc17]
                    simp only [sB] at hq
                    have hkl : k < g.sizes.length := by omega
                    obtain ⟨y, hy⟩ : ∃ y, g.sizes[k]? = some y := ⟨_, List.getElem?_eq_getElem hkl⟩
                    obtain ⟨bz, oz, rfl, hcz⟩ := vars_cell HZ hy
                    have hyc := (HBG.tr HBD).cell hcz
                    refine ca_true (by kernel_rfl) (by kernel_rfl) ?_
                    refine ca_skip ?_
                    refine la_code ?_
                    refine ca_seq ?_
                    refine ca_block ?_
                    refine ca_seq ?_
                    refine ca_region ?_
                    refine wa_q (some 88) (.pointer (some ⟨G, 1, none⟩)) (by kernel_rfl) ?_
                    refine wa_do (some 89) (.slice (some ⟨bz, oz, none⟩) g.sizes.length cz) (by kernel_rfl) (by kernel_rfl) (rl_is rfl (by kernel_rfl) ((HGB.keep HBD).cell (i := 1) (v := .slice (some ⟨bz, oz, none⟩) g.sizes.length cz) rfl)) ?_
                    refine wa_q (some 90) (.int .i64 (k : Int)) (by kernel_rfl) ?_
                    refine wa_do (some 91) (.pointer (some ⟨bz, oz + k, none⟩)) (by kernel_rfl) (by kernel_rfl) (run_ix1 elI bz oz g.sizes.length cz k rfl (by kernel_rfl) (by kernel_rfl) hkl) ?_
                    refine wa_do (some 92) (.int .i64 y) (by kernel_rfl) (by kernel_rfl) (rl_int rfl (by kernel_rfl) hyc) ?_
                    obtain ⟨zc18, hzc18⟩ : ∃ b : Bool, ((y : Int) != 0) = b := ⟨_, rfl⟩
                    refine wa_do (some 93) (.bool zc18) (by kernel_rfl) (by kernel_rfl) (rb_neqI (k := y) (l := 0) rfl (by kernel_rfl) (by kernel_rfl) hzc18) ?_
                    refine wa_nil ?_
                    refine la_code ?_
                    cases zc18 with
                    | true =>
                      have hq : (((y : Int) != 0)) = true := by rw [hzc18]
                      simp only [sB] at hq
                      have HT0 : T = 1 := HRET 1 (by rw [← hF, if_pos (Or.inl (all_not (l := g.sizes.take g.params.toNat) (i := k) (by rw [List.getElem?_take, if_pos (by omega)]; exact hy) (decide_eq_false hq)))]) (by decide)
                      refine ca_true (by kernel_rfl) (by kernel_rfl) ?_
                      refine ca_seq ?_
                      refine ca_region ?_
                      refine wa_q (some 2) (.int .i64 1) (by kernel_rfl) ?_
                      refine wa_nil ?_
                      refine la_code ?_
                      refine ca_ret ?_
                      refine la_block_ret ?_
                      refine la_then_ret ?_
                      refine la_then_ret ?_
                      refine la_block_ret ?_
                      refine la_then_ret ?_
                      refine la_block_ret ?_
                      refine la_then_ret ?_
                      refine la_then_ret ?_
                      refine la_block_ret ?_
                      refine la_then_ret ?_
                      refine la_ret1 2 (.int .i64 1) rfl (by kernel_rfl) ?_
                      exact ⟨by rw [HT0], HBG.tr HBD⟩
                    | false =>
                      have hq : (((y : Int) != 0)) = false := by rw [hzc18]
                      simp only [sB] at hq
                      refine ca_false (by kernel_rfl) (by kernel_rfl) ?_
                      refine ca_skip ?_
                      refine la_block_normal ?_
                      refine la_code ?_
                      refine ca_region ?_
                      refine wa_q (some 86) (.int .i64 (k : Int)) (by kernel_rfl) ?_
                      refine wa_do (some 87) (.int .i64 (((k : Int) : Int) + 1)) (by kernel_rfl) (by kernel_rfl) (rb_add64 (k := (k : Int)) (l := 1) rfl (by kernel_rfl) (by kernel_rfl) (by omega) (by omega) rfl) ?_
                      refine wa_q (some 9) (.int .i64 (((k : Int) : Int) + 1)) (by kernel_rfl) ?_
                      refine wa_nil ?_
                      refine la_meet (k + 1) [1, 3, 6, 7, 9] (by kernel_rfl) ⟨⟨by omega, by rw [all_snoc hy, hka, decide_eq_true (by omega)]; rfl, HBD⟩, by omega⟩
                  | false =>
                    have hq : (decide (((k : Int) : Int) < g.params)) = false := by rw [hzc17]
                    simp only [sB] at hq
                    obtain hkp : g.params.toNat = k := by omega
                    rw [hkp, hka] at hF
                    clear hka hk hkp
                    refine ca_false (by kernel_rfl) (by kernel_rfl) ?_
                    refine ca_exit ?_
                    refine la_then_exit ?_
                    refine la_then_exit ?_
                    refine la_block_hit ?_
                    refine la_code ?_
                    refine ca_seq ?_
                    refine ca_region ?_
                    refine wa_q (some 94) (.int .i64 (i : Int)) (by kernel_rfl) ?_
                    refine wa_do (some 95) (.int .i64 (((i : Int) : Int) + 1)) (by kernel_rfl) (by kernel_rfl) (rb_add64 (k := (i : Int)) (l := 1) rfl (by kernel_rfl) (by kernel_rfl) (by omega) (by omega) rfl) ?_
                    refine wa_q (some 10) (.int .i64 (((i : Int) : Int) + 1)) (by kernel_rfl) ?_
                    refine wa_nil ?_
                    refine la_code ?_
                    refine ca_cut (α := Unit) (fun _ W => ¬ (main = true ∧ 0 < g.params) ∧ Bel WK W) (fun _ => [(1, .pointer (some ⟨Q, 0, none⟩)), (3, .int .i64 ps.length), (6, .int .i64 (i : Int)), (7, .pointer (some ⟨G, 0, none⟩)), (10, .int .i64 cl)]) ?_ ?_
                    · skip
                      refine ca_seq ?_
                      refine ca_region ?_
                      refine wa_q (some 96) (.int .i64 (i : Int)) (by kernel_rfl) ?_
                      refine wa_q (some 97) (.int .i64 ps.length) (by kernel_rfl) ?_
                      refine wa_do (some 98) (.int .i64 ((ps.length : Int) - 1)) (by kernel_rfl) (by kernel_rfl) (rb_subI (k := ps.length) (l := 1) rfl (by kernel_rfl) (by kernel_rfl) (by omega) (by omega) rfl) ?_
                      obtain ⟨zc19, hzc19⟩ : ∃ b : Bool, (((i : Int) : Int) == ((ps.length : Int) - 1)) = b := ⟨_, rfl⟩
                      refine wa_do (some 99) (.bool zc19) (by kernel_rfl) (by kernel_rfl) (rb_eqlI (k := (i : Int)) (l := ((ps.length : Int) - 1)) rfl (by kernel_rfl) (by kernel_rfl) hzc19) ?_
                      refine wa_nil ?_
                      refine la_code ?_
                      cases zc19 with
                      | true =>
                        have hq : ((((i : Int) : Int) == ((ps.length : Int) - 1))) = true := by rw [hzc19]
                        simp only [sB] at hq
                        refine ca_true (by kernel_rfl) (by kernel_rfl) ?_
                        refine ca_seq ?_
                        refine ca_region ?_
                        refine wa_q (some 100) (.int .i64 (i : Int)) (by kernel_rfl) ?_
                        refine wa_q (some 10) (.int .i64 (i : Int)) (by kernel_rfl) ?_
                        refine wa_nil ?_
                        refine la_code ?_
                        refine ca_seq ?_
                        refine ca_region ?_
                        refine wa_q (some 101) (.pointer (some ⟨G, 0, none⟩)) (by kernel_rfl) ?_
                        refine wa_do (some 102) (.int .i64 g.params) (by kernel_rfl) (by kernel_rfl) (rl_int rfl (by kernel_rfl) ((HGB.keep HBD).cell (i := 0) (v := .int .i64 g.params) rfl)) ?_
                        obtain ⟨zc20, hzc20⟩ : ∃ b : Bool, decide ((0 : Int) < g.params) = b := ⟨_, rfl⟩
                        refine wa_do (some 103) (.bool zc20) (by kernel_rfl) (by kernel_rfl) (rb_gtrI (k := g.params) (l := 0) rfl (by kernel_rfl) (by kernel_rfl) hzc20) ?_
                        refine wa_nil ?_
                        refine la_code ?_
                        cases zc20 with
                        | true =>
                          have hq2 : (decide ((0 : Int) < g.params)) = true := by rw [hzc20]
                          simp only [sB] at hq2
                          have HT0 : T = 1 := HRET 1 (by rw [← hF, if_pos (Or.inr ⟨by rw [hmn]; exact decide_eq_true (by omega), by omega⟩)]) (by decide)
                          refine ca_true (by kernel_rfl) (by kernel_rfl) ?_
                          refine ca_seq ?_
                          refine ca_region ?_
                          refine wa_q (some 2) (.int .i64 1) (by kernel_rfl) ?_
                          refine wa_nil ?_
                          refine la_code ?_
                          refine ca_ret ?_
                          refine la_then_ret ?_
                          refine la_block_ret ?_
                          refine la_then_ret ?_
                          refine la_then_ret ?_
                          refine la_block_ret ?_
                          refine la_then_ret ?_
                          refine la_ret1 2 (.int .i64 1) rfl (by kernel_rfl) ?_
                          exact ⟨by rw [HT0], HBG.tr HBD⟩
                        | false =>
                          have hq2 : (decide ((0 : Int) < g.params)) = false := by rw [hzc20]
                          simp only [sB] at hq2
                          refine ca_false (by kernel_rfl) (by kernel_rfl) ?_
                          refine ca_skip ?_
                          have hE : cl = (i : Int) := by rw [hcln]; split <;> omega
                          refine la_meet () [1, 3, 6, 7, 10] (by rw [hE]; kernel_rfl) ⟨?_, HBD⟩
                          rintro ⟨h1, h2⟩
                          have := of_decide_eq_true (hmn.symm.trans h1)
                          omega
                      | false =>
                        have hq : ((((i : Int) : Int) == ((ps.length : Int) - 1))) = false := by rw [hzc19]
                        simp only [sB] at hq
                        refine ca_false (by kernel_rfl) (by kernel_rfl) ?_
                        refine ca_skip ?_
                        have hE : cl = (((i : Int) : Int) + 1) := by rw [hcln]; split <;> omega
                        refine la_meet () [1, 3, 6, 7, 10] (by rw [hE]; kernel_rfl) ⟨?_, HBD⟩
                        rintro ⟨h1, h2⟩
                        have := of_decide_eq_true (hmn.symm.trans h1)
                        omega
                    rintro - WC ⟨hnm, HBD⟩
                    rw [if_neg (by rintro (h | h); exact Bool.noConfusion h; exact hnm h)] at hF
                    refine ca_seq ?_
                    refine ca_region ?_
                    refine wa_do (some 104) (.agg #[.slice (some ⟨bp, op, none⟩) ps.length cp]) (by kernel_rfl) (by kernel_rfl) (rl_pg rfl (by kernel_rfl) ((HP1.keep (HBC.tr HBD)).cell (i := 0) rfl)) ?_
                    refine wa_do (some 105) (.agg #[.int .i64 g.params, .slice Az g.sizes.length cz, .slice Ac g.cmds.length cc, .int .i64 g.result.kind, .int .i64 g.result.n, .slice Ar g.result.args.length cr]) (by kernel_rfl) (by kernel_rfl) (run_loadRow FNT (.tmp 7) rfl elPF G 0 (by kernel_rfl) [.int .i64 g.params, .slice Az g.sizes.length cz, .slice Ac g.cmds.length cc, .int .i64 g.result.kind, .int .i64 g.result.n, .slice Ar g.result.args.length cr] (blkRange (HGB.keep HBD) 0 rfl) rfl (by kernel_rfl)) ?_
                    refine wa_q (some 106) (.int .i64 cl) (by kernel_rfl) ?_
                    refine wa_q (some 107) (.pointer (some ⟨G, 2, none⟩)) (by kernel_rfl) ?_
                    refine wa_do (some 108) (.slice Ac g.cmds.length cc) (by kernel_rfl) (by kernel_rfl) (rl_cs rfl (by kernel_rfl) ((HGB.keep HBD).cell (i := 2) (v := .slice Ac g.cmds.length cc) rfl)) ?_
                    refine wa_sy (some 109) (.int .i64 (errCs (ps.map PF.params) g.sizes cl g.cmds)) (by kernel_rfl) (by kernel_rfl) 55 #[.agg #[.slice (some ⟨bp, op, none⟩) ps.length cp], .agg #[.int .i64 g.params, .slice Az g.sizes.length cz, .slice Ac g.cmds.length cc, .int .i64 g.result.kind, .int .i64 g.result.n, .slice Ar g.result.args.length cr], .int .i64 cl, .slice Ac g.cmds.length cc] (by kernel_rfl) (checkCmds_any ps g.sizes cl hcl0 hcl1 (by omega) g.cmds _ _ _ _ (hp.keep (HBG.tr HBD)) ⟨_, _, _, _, _, _, _, _, _, _, _, rfl, HZ.keep (HBG.tr HBD)⟩ (HCM.keep (HBG.tr HBD))) ?_
                    intro WC hb
                    replace HBD := HBD.tr hb
                    clear hb
                    refine wa_q (some 11) (.int .i64 (errCs (ps.map PF.params) g.sizes cl g.cmds)) (by kernel_rfl) ?_
                    refine wa_nil ?_
                    obtain ⟨e1, he1⟩ : ∃ e1, errCs (ps.map PF.params) g.sizes cl g.cmds = e1 := ⟨_, rfl⟩
                    rw [he1] at hF
                    rw [he1]
                    refine la_code ?_
                    refine ca_cut (α := Int) (fun q W => q = orE e1 (if main = true then (if g.result.none_ = true then 0 else 1) else 0) ∧ Bel WK W) (fun q => [(1, .pointer (some ⟨Q, 0, none⟩)), (3, .int .i64 ps.length), (6, .int .i64 (i : Int)), (7, .pointer (some ⟨G, 0, none⟩)), (11, .int .i64 q)]) ?_ ?_
                    · skip
                      refine ca_seq ?_
                      refine ca_region ?_
                      refine wa_q (some 110) (.int .i64 e1) (by kernel_rfl) ?_
                      obtain ⟨zc21, hzc21⟩ : ∃ b : Bool, ((e1 : Int) == 0) = b := ⟨_, rfl⟩
                      refine wa_do (some 111) (.bool zc21) (by kernel_rfl) (by kernel_rfl) (rb_eqlR (k := e1) (l := 0) rfl (by kernel_rfl) (by kernel_rfl) hzc21) ?_
                      refine wa_q (some 112) (.bool zc21) (by kernel_rfl) ?_
                      refine wa_if (some 113) zc21 (.int .i64 (i : Int)) (by kernel_rfl) (by kernel_rfl) (by cases zc21 <;> kernel_rfl) (fun hG => by subst hG; kernel_rfl) ?_
                      refine wa_if (some 114) zc21 (.int .i64 ps.length) (by kernel_rfl) (by kernel_rfl) (by cases zc21 <;> kernel_rfl) (fun hG => by subst hG; kernel_rfl) ?_
                      refine wa_if (some 115) zc21 (.int .i64 ((ps.length : Int) - 1)) (by kernel_rfl) (by kernel_rfl) (by cases zc21 <;> kernel_rfl) (fun hG => by subst hG; exact rb_subI (k := ps.length) (l := 1) rfl (by kernel_rfl) (by kernel_rfl) (by omega) (by omega) rfl) ?_
                      obtain ⟨zc22, hzc22⟩ : ∃ b : Bool, (((i : Int) : Int) == ((ps.length : Int) - 1)) = b := ⟨_, rfl⟩
                      refine wa_if (some 116) zc21 (.bool zc22) (by kernel_rfl) (by kernel_rfl) (by cases zc21 <;> kernel_rfl) (fun hG => by subst hG; exact rb_eqlI (k := (i : Int)) (l := ((ps.length : Int) - 1)) rfl (by kernel_rfl) (by kernel_rfl) hzc22) ?_
                      obtain ⟨zr23, hzr23⟩ : ∃ b : Bool, (zc21 && zc22) = b := ⟨_, rfl⟩
                      refine wa_do (some 117) (.bool zr23) (by kernel_rfl) (by kernel_rfl) (by subst hzr23; cases zc21 <;> (kernel_rfl)) ?_
                      refine wa_q (some 118) (.bool zr23) (by kernel_rfl) ?_
                      refine wa_if (some 119) zr23 (.pointer (some ⟨G, 3, none⟩)) (by kernel_rfl) (by kernel_rfl) (by cases zr23 <;> kernel_rfl) (fun hG => by subst hG; kernel_rfl) ?_
                      refine wa_if (some 120) zr23 (.agg #[.int .i64 g.result.kind, .int .i64 g.result.n, .slice Ar g.result.args.length cr]) (by kernel_rfl) (by kernel_rfl) (by cases zr23 <;> kernel_rfl) (fun hG => by subst hG; exact run_loadRow 47 (.tmp 119) rfl elPE G 3 (by kernel_rfl) [.int .i64 g.result.kind, .int .i64 g.result.n, .slice Ar g.result.args.length cr] (blkRange (HGB.keep HBD) 3 rfl) rfl (by kernel_rfl)) ?_
                      obtain ⟨zb24, hzb24⟩ : ∃ b : Bool, g.result.none_ = b := ⟨_, rfl⟩
                      refine wa_callif (some 121) zr23 (.bool zb24) (by kernel_rfl) (by kernel_rfl) (by cases zr23 <;> kernel_rfl) 56 #[.agg #[.int .i64 g.result.kind, .int .i64 g.result.n, .slice Ar g.result.args.length cr]] (fun hG => by subst hG; kernel_rfl) (hzb24 ▸ noneExpr_any g.result _ _ (HRX.keep (HBG.tr HBD))) ?_
                      intro WC hb
                      replace HBD := HBD.tr hb
                      clear hb
                      obtain ⟨zr25, hzr25⟩ : ∃ b : Bool, (!zb24) = b := ⟨_, rfl⟩
                      refine wa_if (some 122) zr23 (.bool zr25) (by kernel_rfl) (by kernel_rfl) (by cases zr23 <;> kernel_rfl) (fun hG => by subst hG; subst hzr25; kernel_rfl) ?_
                      obtain ⟨zr26, hzr26⟩ : ∃ b : Bool, (zr23 && zr25) = b := ⟨_, rfl⟩
                      refine wa_do (some 123) (.bool zr26) (by kernel_rfl) (by kernel_rfl) (by subst hzr26; cases zr23 <;> (kernel_rfl)) ?_
                      refine wa_nil ?_
                      refine la_code ?_
                      cases zr26 with
                      | true =>
                        have hq : (((((e1 : Int) == 0)) && ((((i : Int) : Int) == ((ps.length : Int) - 1)))) && (!(g.result.none_))) = true := by rw [hzc21, hzc22, hzr23, hzb24, hzr25, hzr26]
                        simp only [sB] at hq
                        obtain ⟨⟨he0, him⟩, hnn⟩ := hq
                        have hm : main = true := by rw [hmn]; exact decide_eq_true (by omega)
                        have hM : (1 : Int) = orE e1 (if main = true then (if g.result.none_ = true then 0 else 1) else 0) := by rw [he0, orE_0, if_pos hm, if_neg (by rw [hnn]; decide)]
                        refine ca_true (by kernel_rfl) (by kernel_rfl) ?_
                        refine ca_region ?_
                        refine wa_q (some 11) (.int .i64 1) (by kernel_rfl) ?_
                        refine wa_nil ?_
                        refine la_meet (1 : Int) [1, 3, 6, 7, 11] (by kernel_rfl) ⟨?_, HBD⟩
                        exact hM
                      | false =>
                        have hq : (((((e1 : Int) == 0)) && ((((i : Int) : Int) == ((ps.length : Int) - 1)))) && (!(g.result.none_))) = false := by rw [hzc21, hzc22, hzr23, hzb24, hzr25, hzr26]
                        simp only [sB] at hq
                        have hM : e1 = orE e1 (if main = true then (if g.result.none_ = true then 0 else 1) else 0) := by
                          by_cases he0 : e1 = 0
                          · by_cases him : i + 1 = ps.length
                            · have hn : g.result.none_ = true := by
                                rcases hq with (h | h) | h
                                · omega
                                · omega
                                · exact h
                              rw [he0, orE_0, if_pos (by rw [hmn]; exact decide_eq_true him), if_pos hn]
                            · rw [he0, orE_0, if_neg (by rw [hmn, decide_eq_false him]; decide)]
                          · rw [orE_n he0]
                        refine ca_false (by kernel_rfl) (by kernel_rfl) ?_
                        refine ca_skip ?_
                        refine la_meet (e1 : Int) [1, 3, 6, 7, 11] (by kernel_rfl) ⟨?_, HBD⟩
                        exact hM
                    rintro e2 WC ⟨he2, HBD⟩
                    refine ca_cut (α := Int) (fun q W => q = orE e2 (if main = true then 0 else g.result.err g.sizes) ∧ Bel WK W) (fun q => [(1, .pointer (some ⟨Q, 0, none⟩)), (3, .int .i64 ps.length), (6, .int .i64 (i : Int)), (7, .pointer (some ⟨G, 0, none⟩)), (11, .int .i64 q)]) ?_ ?_
                    · skip
                      refine ca_seq ?_
                      refine ca_region ?_
                      refine wa_q (some 124) (.int .i64 e2) (by kernel_rfl) ?_
                      obtain ⟨zc27, hzc27⟩ : ∃ b : Bool, ((e2 : Int) == 0) = b := ⟨_, rfl⟩
                      refine wa_do (some 125) (.bool zc27) (by kernel_rfl) (by kernel_rfl) (rb_eqlR (k := e2) (l := 0) rfl (by kernel_rfl) (by kernel_rfl) hzc27) ?_
                      refine wa_q (some 126) (.bool zc27) (by kernel_rfl) ?_
                      refine wa_if (some 127) zc27 (.int .i64 (i : Int)) (by kernel_rfl) (by kernel_rfl) (by cases zc27 <;> kernel_rfl) (fun hG => by subst hG; kernel_rfl) ?_
                      refine wa_if (some 128) zc27 (.int .i64 ps.length) (by kernel_rfl) (by kernel_rfl) (by cases zc27 <;> kernel_rfl) (fun hG => by subst hG; kernel_rfl) ?_
                      refine wa_if (some 129) zc27 (.int .i64 ((ps.length : Int) - 1)) (by kernel_rfl) (by kernel_rfl) (by cases zc27 <;> kernel_rfl) (fun hG => by subst hG; exact rb_subI (k := ps.length) (l := 1) rfl (by kernel_rfl) (by kernel_rfl) (by omega) (by omega) rfl) ?_
                      obtain ⟨zc28, hzc28⟩ : ∃ b : Bool, decide (((i : Int) : Int) < ((ps.length : Int) - 1)) = b := ⟨_, rfl⟩
                      refine wa_if (some 130) zc27 (.bool zc28) (by kernel_rfl) (by kernel_rfl) (by cases zc27 <;> kernel_rfl) (fun hG => by subst hG; exact rb_lssI (k := (i : Int)) (l := ((ps.length : Int) - 1)) rfl (by kernel_rfl) (by kernel_rfl) hzc28) ?_
                      obtain ⟨zr29, hzr29⟩ : ∃ b : Bool, (zc27 && zc28) = b := ⟨_, rfl⟩
                      refine wa_do (some 131) (.bool zr29) (by kernel_rfl) (by kernel_rfl) (by subst hzr29; cases zc27 <;> (kernel_rfl)) ?_
                      refine wa_nil ?_
                      refine la_code ?_
                      cases zr29 with
                      | true =>
                        have hq : ((((e2 : Int) == 0)) && (decide (((i : Int) : Int) < ((ps.length : Int) - 1)))) = true := by rw [hzc27, hzc28, hzr29]
                        simp only [sB] at hq
                        obtain ⟨he0, him⟩ := hq
                        have hm : main = false := by rw [hmn]; exact decide_eq_false (by omega)
                        have hM : g.result.err g.sizes = orE e2 (if main = true then 0 else g.result.err g.sizes) := by rw [he0, orE_0, if_neg (by rw [hm]; decide)]
                        refine ca_true (by kernel_rfl) (by kernel_rfl) ?_
                        refine ca_region ?_
                        refine wa_q (some 132) (.pointer (some ⟨G, 3, none⟩)) (by kernel_rfl) ?_
                        refine wa_do (some 133) (.agg #[.int .i64 g.result.kind, .int .i64 g.result.n, .slice Ar g.result.args.length cr]) (by kernel_rfl) (by kernel_rfl) (run_loadRow 47 (.tmp 132) rfl elPE G 3 (by kernel_rfl) [.int .i64 g.result.kind, .int .i64 g.result.n, .slice Ar g.result.args.length cr] (blkRange (HGB.keep HBD) 3 rfl) rfl (by kernel_rfl)) ?_
                        refine wa_q (some 134) (.pointer (some ⟨G, 1, none⟩)) (by kernel_rfl) ?_
                        refine wa_do (some 135) (.slice Az g.sizes.length cz) (by kernel_rfl) (by kernel_rfl) (rl_is rfl (by kernel_rfl) ((HGB.keep HBD).cell (i := 1) (v := .slice Az g.sizes.length cz) rfl)) ?_
                        refine wa_sy (some 136) (.int .i64 (g.result.err g.sizes)) (by kernel_rfl) (by kernel_rfl) 57 #[.agg #[.int .i64 g.result.kind, .int .i64 g.result.n, .slice Ar g.result.args.length cr], .slice Az g.sizes.length cz] (by kernel_rfl) (checkExpr_any g.sizes g.result _ _ _ (HRX.keep (HBG.tr HBD)) (HZ.keep (HBG.tr HBD))) ?_
                        intro WC hb
                        replace HBD := HBD.tr hb
                        clear hb
                        refine wa_q (some 11) (.int .i64 (g.result.err g.sizes)) (by kernel_rfl) ?_
                        refine wa_nil ?_
                        refine la_meet ((g.result.err g.sizes) : Int) [1, 3, 6, 7, 11] (by kernel_rfl) ⟨?_, HBD⟩
                        exact hM
                      | false =>
                        have hq : ((((e2 : Int) == 0)) && (decide (((i : Int) : Int) < ((ps.length : Int) - 1)))) = false := by rw [hzc27, hzc28, hzr29]
                        simp only [sB] at hq
                        have hM : e2 = orE e2 (if main = true then 0 else g.result.err g.sizes) := by
                          by_cases he0 : e2 = 0
                          · rw [he0, orE_0, if_pos (by rw [hmn]; exact decide_eq_true (by omega))]
                          · rw [orE_n he0]
                        refine ca_false (by kernel_rfl) (by kernel_rfl) ?_
                        refine ca_skip ?_
                        refine la_meet (e2 : Int) [1, 3, 6, 7, 11] (by kernel_rfl) ⟨?_, HBD⟩
                        exact hM
                    rintro e3 WC ⟨he3, HBD⟩
                    refine ca_seq ?_
                    refine ca_region ?_
                    refine wa_q (some 137) (.int .i64 e3) (by kernel_rfl) ?_
                    obtain ⟨zc30, hzc30⟩ : ∃ b : Bool, ((e3 : Int) != 0) = b := ⟨_, rfl⟩
                    refine wa_do (some 138) (.bool zc30) (by kernel_rfl) (by kernel_rfl) (rb_neqR (k := e3) (l := 0) rfl (by kernel_rfl) (by kernel_rfl) hzc30) ?_
                    refine wa_nil ?_
                    refine la_code ?_
                    cases zc30 with
                    | true =>
                      have hq : (((e3 : Int) != 0)) = true := by rw [hzc30]
                      simp only [sB] at hq
                      have hFe : F = e3 := by
                        rw [← hF, he3, he2]
                        cases main <;> simp only [Bool.false_eq_true, if_false, if_true, orE_zero]
                      have HT0 : T = e3 := by rw [HX, hFe, orE_n (a := e3) hq]
                      refine ca_true (by kernel_rfl) (by kernel_rfl) ?_
                      refine ca_seq ?_
                      refine ca_region ?_
                      refine wa_q (some 139) (.int .i64 e3) (by kernel_rfl) ?_
                      refine wa_q (some 2) (.int .i64 e3) (by kernel_rfl) ?_
                      refine wa_nil ?_
                      refine la_code ?_
                      refine ca_ret ?_
                      refine la_block_ret ?_
                      refine la_then_ret ?_
                      refine la_then_ret ?_
                      refine la_block_ret ?_
                      refine la_then_ret ?_
                      refine la_ret1 2 (.int .i64 e3) rfl (by kernel_rfl) ?_
                      exact ⟨by rw [HT0], HBG.tr HBD⟩
                    | false =>
                      have hq : (((e3 : Int) != 0)) = false := by rw [hzc30]
                      simp only [sB] at hq
                      have hFe : F = e3 := by
                        rw [← hF, he3, he2]
                        cases main <;> simp only [Bool.false_eq_true, if_false, if_true, orE_zero]
                      have HNX : errFs (ps.map PF.params) (i + 1) (ps.drop (i + 1)) = T := by rw [HX, hFe, hq, orE_0]
                      refine ca_false (by kernel_rfl) (by kernel_rfl) ?_
                      refine ca_skip ?_
                      refine la_block_normal ?_
                      refine la_code ?_
                      refine ca_region ?_
                      refine wa_q (some 38) (.int .i64 (i : Int)) (by kernel_rfl) ?_
                      refine wa_do (some 39) (.int .i64 (((i : Int) : Int) + 1)) (by kernel_rfl) (by kernel_rfl) (rb_add64 (k := (i : Int)) (l := 1) rfl (by kernel_rfl) (by kernel_rfl) (by omega) (by omega) rfl) ?_
                      refine wa_q (some 6) (.int .i64 (((i : Int) : Int) + 1)) (by kernel_rfl) ?_
                      refine wa_nil ?_
                      refine la_meet (i + 1) [1, 3, 6] (by kernel_rfl) ⟨⟨by omega, HNX, HBC.tr HBD⟩, by omega⟩
          | false =>
            have hq : (decide (((i : Int) : Int) < ps.length)) = false := by rw [hzc5]
            simp only [sB] at hq
            have HT0 : T = 0 := by rw [← HE, List.drop_eq_nil_of_le (by omega), errFs]
            refine ca_false (by kernel_rfl) (by kernel_rfl) ?_
            refine ca_exit ?_
            refine la_then_exit ?_
            refine la_then_exit ?_
            refine la_block_hit ?_
            refine la_code ?_
            refine ca_seq ?_
            refine ca_region ?_
            refine wa_q (some 2) (.int .i64 0) (by kernel_rfl) ?_
            refine wa_nil ?_
            refine la_code ?_
            refine ca_ret ?_
            refine la_ret1 2 (.int .i64 0) rfl (by kernel_rfl) ?_
            exact ⟨by rw [HT0], HB1.tr HBC⟩
end Go.Proofs.Ytgkpplbomciehaa
