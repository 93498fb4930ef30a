/- Compile, and CodeTells: walked. Each lemma states its own conditions. -/
import Derived.Test.YtgkpplbomciehaaCdt32
import Derived.Test.YtgkpplbomciehaaCdt34
import Derived.Test.YtgkpplbomciehaaCdt21
import Derived.Test.YtgkpplbomciehaaCdt35
namespace Go.Proofs.Ytgkpplbomciehaa
open Go.RowKit
theorem nil_one : ∀ u ∈ [Value.slice none 0 0, .slice none 0 0, .slice none 0 0], u.oneCell' = true := fun u hu => by
  simp at hu
  subst hu
  rfl
/-- what Compile hands back -/
def CompIs (ps : List PF) (w : World) (r : Ending) (w' : World) : Prop :=
  Bel w w' ∧ ∃ vi vf vz, r = .returned (.tuple #[.agg #[vi, vf, vz], .int .i64 (errP ps)]) ∧ (∀ u ∈ [vi, vf, vz], u.oneCell' = true) ∧ (errP ps ≠ 0 → vi = .slice none 0 0 ∧ vf = .slice none 0 0 ∧ vz = .slice none 0 0) ∧ (errP ps = 0 → CodeR w' (.agg #[vi, vf, vz]) (compP ps))
set_option maxRecDepth 20000 in
theorem compile_any (ps : List PF) (vp : Value) (w : World) (hs : Sl pfR w vp ps) : Calls Try.prog 20 #[.agg #[vp]] w (CompIs ps w) := by
  obtain ⟨Ap, cp, rfl, -⟩ := sl_lit hs
  have HB1 : Bel w (w.alloc (.cells #[.slice Ap ps.length cp] PGT)) := (Bel.rfl_ w).al _
  have HP1 := Blk.new w PGT #[.slice Ap ps.length cp]
  unfold CompIs
  obtain ⟨E, hE⟩ : ∃ E, errP ps = E := ⟨_, rfl⟩
  rw [hE]
  refine af_enter (c := _) (args := [.agg #[.slice Ap ps.length cp]]) Try.func20 rfl Try.ntmps20 (by kernel_rfl) ?_
  refine ca_seq ?_
  refine ca_region ?_
  refine wa_w (some 1) (.pointer (some ⟨w.heap.size, 0, none⟩)) (w.alloc (.cells #[.slice Ap ps.length cp] PGT)) (by kernel_rfl) ?_
  generalize w.alloc (.cells #[.slice Ap ps.length cp] PGT) = W1 at *
  obtain ⟨Q, hQ⟩ : ∃ n, w.heap.size = n := ⟨_, rfl⟩
  rw [hQ] at HP1
  rw [hQ]
  refine wa_alloc CDT 2 rfl rfl (by kernel_rfl) infCD ?_
  intro z hz
  have HZ := Blk.new W1 CDT z
  have HBC := HB1.al (.cells z CDT)
  have HPC := HP1.keep ((Bel.rfl_ W1).al (.cells z CDT))
  have hgr : w.heap.size ≤ W1.heap.size := HB1.size
  generalize W1.alloc (.cells z CDT) = W2 at *
  generalize W1.heap.size = gr at *
  refine wa_q (some 3) (.int .i64 0) (by kernel_rfl) ?_
  refine wa_nil ?_
  refine la_code ?_
  refine ca_seq ?_
  refine ca_seq ?_
  refine ca_region ?_
  refine wa_do (some 5) (.agg #[.slice Ap ps.length cp]) (by kernel_rfl) (by kernel_rfl) (rl_pg rfl (by kernel_rfl) (HPC.cell (i := 0) rfl)) ?_
  refine wa_sy (some 6) (.int .i64 E) (by kernel_rfl) (by kernel_rfl) 52 #[.agg #[.slice Ap ps.length cp]] (by kernel_rfl) (hE ▸ check_any ps _ _ (hs.keep HBC)) ?_
  intro WD hb
  replace HBC := HBC.tr hb
  replace HPC := HPC.keep hb
  replace HZ := HZ.keep hb
  clear hb
  refine wa_q (some 4) (.int .i64 E) (by kernel_rfl) ?_
  refine wa_nil ?_
  refine la_code ?_
  refine ca_seq ?_
  refine ca_region ?_
  refine wa_q (some 7) (.int .i64 E) (by kernel_rfl) ?_
  obtain ⟨zc1, hzc1⟩ : ∃ b : Bool, ((E : Int) != 0) = b := ⟨_, rfl⟩
  refine wa_do (some 8) (.bool zc1) (by kernel_rfl) (by kernel_rfl) (rb_neqR (k := E) (l := 0) rfl (by kernel_rfl) (by kernel_rfl) hzc1) ?_
  refine wa_nil ?_
  refine la_code ?_
  cases zc1 with
  | true =>
    have hq : (((E : Int) != 0)) = true := by rw [hzc1]
    simp only [sB] at hq
    refine ca_true (by kernel_rfl) (by kernel_rfl) ?_
    refine ca_seq ?_
    refine ca_region ?_
    refine wa_q (some 9) (.agg #[.slice none 0 0, .slice none 0 0, .slice none 0 0]) (by kernel_rfl) ?_
    refine wa_q (some 10) (.int .i64 E) (by kernel_rfl) ?_
    refine wa_row CDT (.tmp 2) (.tmp 9) rfl rfl (by kernel_rfl) gr [.slice none 0 0, .slice none 0 0, .slice none 0 0] (by kernel_rfl) (by kernel_rfl) (by kernel_rfl) (by kernel_rfl) HZ szCD hz nil_one ?_
    have HR := HZ.row_same #[.slice none 0 0, .slice none 0 0, .slice none 0 0]
    replace HBC := HBC.row hgr #[.slice none 0 0, .slice none 0 0, .slice none 0 0]
    generalize World.setRow _ gr _ = W9 at *
    refine wa_q (some 3) (.int .i64 E) (by kernel_rfl) ?_
    refine wa_nil ?_
    refine la_code ?_
    refine ca_ret ?_
    refine la_then_ret ?_
    refine la_retC1 2 CDT gr 3 #[.slice none 0 0, .slice none 0 0, .slice none 0 0] (.int .i64 E) _ rfl (by kernel_rfl) (by kernel_rfl) HR Try.underlying26 rfl szCD ?_
    exact ⟨HBC, _, _, _, rfl, nil_one, fun _ => ⟨rfl, rfl, rfl⟩, fun h => absurd h hq⟩
  | false =>
    have hq : (((E : Int) != 0)) = false := by rw [hzc1]
    simp only [sB] at hq
    have hp := errP_ok (ps := ps) (by omega)
    refine ca_false (by kernel_rfl) (by kernel_rfl) ?_
    refine ca_skip ?_
    refine la_code ?_
    refine ca_seq ?_
    refine ca_region ?_
    refine wa_do (some 11) (.agg #[.slice Ap ps.length cp]) (by kernel_rfl) (by kernel_rfl) (rl_pg rfl (by kernel_rfl) (HPC.cell (i := 0) rfl)) ?_
    refine wa_call (some 12) (by kernel_rfl) (by kernel_rfl) 53 #[.agg #[.slice Ap ps.length cp]] (by kernel_rfl) (raw_code ps hp (by have := compTo_small hp; omega) _ _ (hs.keep HBC)) ?_
    rintro r WR ⟨q, vi, vf, vz, us, rfl, HD⟩
    have hgl := HZ.lt
    have hb := HD.code.low
    replace HBC := HBC.tr hb
    replace HZ := HZ.keep hb
    clear hb
    refine ⟨_, rfl, ?_⟩
    refine wa_row CDT (.tmp 2) (.tmp 12) rfl rfl (by kernel_rfl) gr [vi, vf, vz] (by kernel_rfl) (by kernel_rfl) (by kernel_rfl) (by kernel_rfl) HZ szCD hz HD.one3 ?_
    have HR := HZ.row_same #[vi, vf, vz]
    have HCR := HD.elder hgl #[vi, vf, vz]
    have hone := HD.one3
    replace HBC := HBC.row hgr #[vi, vf, vz]
    generalize World.setRow _ gr _ = W9 at *
    refine wa_q (some 3) (.int .i64 0) (by kernel_rfl) ?_
    refine wa_nil ?_
    refine la_code ?_
    refine ca_ret ?_
    refine la_retC1 2 CDT gr 3 #[vi, vf, vz] (.int .i64 0) _ rfl (by kernel_rfl) (by kernel_rfl) HR Try.underlying26 rfl szCD ?_
    exact ⟨HBC, _, _, _, by rw [show E = 0 by omega], hone, fun h => absurd (show E = 0 by omega) h, fun _ => HCR⟩
theorem compP_small : (compP smallPs).first.length = 1 := compP_first smallPs
set_option maxRecDepth 20000 in
theorem codeBegun_any (w : World) : Calls Try.prog 22 #[] w fun r w' => r = .returned (.bool true) ∧ Bel w w' := by
  have hp := errP_ok small_ok
  have hcE := compP_ok hp
  have hk0 : ((0 : Int) == 0) = true := rfl
  refine af_enter (c := _) (args := []) Try.func22 rfl Try.ntmps22 (by kernel_rfl) ?_
  refine ca_seq ?_
  refine ca_region ?_
  refine wa_q (some 0) (.bool false) (by kernel_rfl) ?_
  refine wa_nil ?_
  refine la_code ?_
  refine ca_seq ?_
  refine ca_region ?_
  refine wa_call (some 4) (by kernel_rfl) (by kernel_rfl) 58 #[] (by kernel_rfl) (small_any _) ?_
  rintro r W1 ⟨vs, rfl, hs, HB1⟩
  refine ⟨_, rfl, ?_⟩
  refine wa_call (some 5) (by kernel_rfl) (by kernel_rfl) 20 #[.agg #[vs]] (by kernel_rfl) (compile_any smallPs _ _ hs) ?_
  rintro r W2 ⟨hb, vi, vf, vz, rfl, hone, -, hcr⟩
  have HB2 := HB1.tr hb
  have HCR := hcr small_ok
  clear hb hcr
  refine ⟨_, by rw [small_ok], ?_⟩
  refine wa_q (some 3) (.tuple #[.agg #[vi, vf, vz], .int .i64 0]) (by kernel_rfl) ?_
  refine wa_q (some 6) (.agg #[vi, vf, vz]) (by kernel_rfl) ?_
  refine wa_q (some 7) (.int .i64 0) (by kernel_rfl) ?_
  refine wa_alsi CDT 6 1 ⟨rfl, rfl⟩ ⟨rfl, rfl⟩ ⟨(by kernel_rfl), (by kernel_rfl)⟩ [vi, vf, vz] (fun _ => rfl) (fun _ => rfl) infCD rfl hone ?_
  have HX := Blk.new W2 CDT #[vi, vf, vz]
  have hb := (Bel.rfl_ W2).al (.cells #[vi, vf, vz] CDT)
  replace HCR := HCR.keep hb
  have HBC := HB2.tr hb
  generalize W2.alloc (.cells #[vi, vf, vz] CDT) = W3 at *
  generalize W2.heap.size = xb at *
  have HBK := Bel.rfl_ W3
  refine wa_q (some 2) (.int .i64 0) (by kernel_rfl) ?_
  refine wa_nil ?_
  refine la_code ?_
  refine ca_seq ?_
  refine ca_region ?_
  refine wa_q (some 8) (.int .i64 0) (by kernel_rfl) ?_
  refine wa_q (some 9) (.bool true) (by kernel_rfl) ?_
  refine wa_q (some 10) (.bool true) (by kernel_rfl) ?_
  refine wa_do (some 11) (.agg #[vi, vf, vz]) (by kernel_rfl) (by kernel_rfl) (rl_cd rfl (by kernel_rfl) (blkRange (HX.keep HBK) 0 rfl)) ?_
  refine wa_sy (some 12) (.int .i64 0) (by kernel_rfl) (by kernel_rfl) 23 #[.agg #[vi, vf, vz]] (by kernel_rfl) (hcE ▸ check_code (compP smallPs) _ _ (HCR.keep HBK)) ?_
  intro WD hb
  replace HBC := HBC.tr hb
  replace HBK := HBK.tr hb
  clear hb
  obtain ⟨ui, uf, uz, he, -, hf, -⟩ := HCR
  obtain ⟨Af, cf, rfl, -⟩ := sl_lit hf
  have hfx : vf = .slice Af 1 cf := by injection he with he; have := congrArg (fun a => a[1]?) he; simpa [compP_small] using this
  refine wa_q (some 13) (.bool true) (by kernel_rfl) ?_
  refine wa_q (some 14) (.bool true) (by kernel_rfl) ?_
  refine wa_q (some 15) (.bool true) (by kernel_rfl) ?_
  refine wa_q (some 16) (.pointer (some ⟨xb, 1, none⟩)) (by kernel_rfl) ?_
  refine wa_do (some 17) (.slice Af 1 cf) (by kernel_rfl) (by kernel_rfl) (rl_is rfl (by kernel_rfl) ((HX.keep HBK).cell (i := 1) (v := .slice Af 1 cf) (by rw [hfx]; rfl))) ?_
  refine wa_q (some 18) (.int .i64 1) (by kernel_rfl) ?_
  refine wa_q (some 19) (.bool true) (by kernel_rfl) ?_
  refine wa_q (some 20) (.bool true) (by kernel_rfl) ?_
  refine wa_q (some 0) (.bool true) (by kernel_rfl) ?_
  refine wa_nil ?_
  refine la_code ?_
  refine ca_ret ?_
  refine la_ret1 0 (.bool true) rfl (by kernel_rfl) ?_
  exact ⟨rfl, HBC⟩
set_option maxRecDepth 20000 in
theorem codes_any (c : Cd) (ps : List PF) (vc vp : Value) (w : World) (hcd : CodeR w vc c) (hps : Sl pfR w vp ps) : Calls Try.prog 4 #[vc, .agg #[vp]] w fun r w' => r = .returned (.bool true) ∧ Bel w w' := by
  have hcd0 := hcd
  obtain ⟨vi, vf, vz, rfl, hs, hf, hz⟩ := hcd
  obtain ⟨Ai, ci, rfl, hli⟩ := sl_lit hs
  obtain ⟨Af, cf, rfl, hlf⟩ := sl_lit hf
  obtain ⟨Az, cz, rfl, hlz⟩ := sl_lit hz
  obtain ⟨Ap, cp, rfl, -⟩ := sl_lit hps
  obtain ⟨E, hE⟩ : ∃ E, errP ps = E := ⟨_, rfl⟩
  obtain ⟨D, hD⟩ : ∃ D, codeE c = D := ⟨_, rfl⟩
  refine af_enter (c := _) (args := [.agg #[.slice Ai c.ins.length ci, .slice Af c.first.length cf, .slice Az c.sizes.length cz], .agg #[.slice Ap ps.length cp]]) Try.func4 rfl Try.ntmps4 (by kernel_rfl) ?_
  refine ca_seq ?_
  refine ca_region ?_
  refine wa_w (some 2) (.pointer (some ⟨w.heap.size, 0, none⟩)) (w.alloc (.cells #[.slice Ai c.ins.length ci, .slice Af c.first.length cf, .slice Az c.sizes.length cz] CDT)) (by kernel_rfl) ?_
  have HB1 := (Bel.rfl_ w).al (.cells #[.slice Ai c.ins.length ci, .slice Af c.first.length cf, .slice Az c.sizes.length cz] CDT)
  have HC1 := Blk.new w CDT #[.slice Ai c.ins.length ci, .slice Af c.first.length cf, .slice Az c.sizes.length cz]
  generalize w.alloc (.cells #[.slice Ai c.ins.length ci, .slice Af c.first.length cf, .slice Az c.sizes.length cz] CDT) = W1 at *
  obtain ⟨Q, hQ⟩ : ∃ n, w.heap.size = n := ⟨_, rfl⟩
  rw [hQ] at HC1
  rw [hQ]
  refine wa_w (some 3) (.pointer (some ⟨W1.heap.size, 0, none⟩)) (W1.alloc (.cells #[.slice Ap ps.length cp] PGT)) (by kernel_rfl) ?_
  have HPC := Blk.new W1 PGT #[.slice Ap ps.length cp]
  have hb := (Bel.rfl_ W1).al (.cells #[.slice Ap ps.length cp] PGT)
  have HBC := HB1.tr hb
  replace HC1 := HC1.keep hb
  generalize W1.alloc (.cells #[.slice Ap ps.length cp] PGT) = W2 at *
  generalize W1.heap.size = Q2 at *
  have HBK := Bel.rfl_ W2
  clear hb
  refine wa_q (some 4) (.bool false) (by kernel_rfl) ?_
  refine wa_nil ?_
  refine la_code ?_
  refine ca_seq ?_
  refine ca_region ?_
  refine wa_do (some 9) (.agg #[.slice Ap ps.length cp]) (by kernel_rfl) (by kernel_rfl) (rl_pg rfl (by kernel_rfl) ((HPC.keep HBK).cell (i := 0) rfl)) ?_
  refine wa_call (some 10) (by kernel_rfl) (by kernel_rfl) 20 #[.agg #[.slice Ap ps.length cp]] (by kernel_rfl) (compile_any ps _ _ (hps.keep HBC)) ?_
  rintro r WD ⟨hb, vi, vf, vz, rfl, hone, hnl, hcr⟩
  replace HBC := HBC.tr hb
  replace HBK := HBK.tr hb
  rw [hE] at hnl hcr
  clear hb
  refine ⟨_, by rw [hE], ?_⟩
  refine wa_q (some 8) (.tuple #[.agg #[vi, vf, vz], .int .i64 E]) (by kernel_rfl) ?_
  refine wa_q (some 11) (.agg #[vi, vf, vz]) (by kernel_rfl) ?_
  refine wa_q (some 12) (.int .i64 E) (by kernel_rfl) ?_
  refine wa_alsi CDT 11 5 ⟨rfl, rfl⟩ ⟨rfl, rfl⟩ ⟨(by kernel_rfl), (by kernel_rfl)⟩ [vi, vf, vz] (fun _ => rfl) (fun _ => rfl) infCD rfl hone ?_
  have HX := Blk.new WD CDT #[vi, vf, vz]
  have hb := (Bel.rfl_ WD).al (.cells #[vi, vf, vz] CDT)
  replace hcr := fun h => (hcr h).keep hb
  replace HBC := HBC.tr hb
  replace HBK := HBK.tr hb
  generalize WD.alloc (.cells #[vi, vf, vz] CDT) = W4 at *
  generalize WD.heap.size = xb at *
  have HBX := Bel.rfl_ W4
  clear hb
  refine wa_q (some 6) (.int .i64 E) (by kernel_rfl) ?_
  refine wa_nil ?_
  refine la_code ?_
  refine ca_seq ?_
  refine ca_region ?_
  refine wa_do (some 13) (.agg #[.slice Ap ps.length cp]) (by kernel_rfl) (by kernel_rfl) (rl_pg rfl (by kernel_rfl) ((HPC.keep HBK).cell (i := 0) rfl)) ?_
  refine wa_sy (some 14) (.int .i64 E) (by kernel_rfl) (by kernel_rfl) 21 #[.agg #[.slice Ap ps.length cp]] (by kernel_rfl) (hE ▸ checkProgram_any ps _ _ (hps.keep HBC)) ?_
  intro W5 hb
  replace HBC := HBC.tr hb
  replace HBK := HBK.tr hb
  replace HBX := HBX.tr hb
  clear hb
  refine wa_q (some 7) (.int .i64 E) (by kernel_rfl) ?_
  refine wa_nil ?_
  refine la_code ?_
  refine ca_seq ?_
  refine ca_seq ?_
  refine ca_held (fun V => Bel W5 V) (by kernel_rfl) ((Bel.rfl_ W5).dr) (pan_then (pan_then pan_body)) ?_
  have HR := (Bel.rfl_ W5).dr
  generalize W5.drew = W6 at *
  have hkD : ((D : Int) != D) = false := by simp
  have hkE : ((E : Int) != E) = false := by simp
  refine ra_call 0 (some 15) rfl (by kernel_rfl) 22 #[] (by kernel_rfl) (codeBegun_any _) ?_
  rintro r WE ⟨rfl, hb⟩
  replace HR := HR.tr hb
  clear hb
  refine ⟨_, rfl, HR, ?_⟩
  refine ra_take 1 (some 16) (.bool false) rfl (by kernel_rfl) (fun W hW => by kernel_rfl) ?_
  refine ra_take 2 (some 17) (.bool false) rfl (by kernel_rfl) (fun W hW => by kernel_rfl) ?_
  refine ra_take 3 (some 18) (.agg #[.slice Ai c.ins.length ci, .slice Af c.first.length cf, .slice Az c.sizes.length cz]) rfl (by kernel_rfl) (fun W hW => rl_cd rfl (by kernel_rfl) (blkRange ((HC1.keep HBK).keep hW) 0 rfl)) ?_
  refine ra_take 5 (some 20) (.agg #[.slice Ai c.ins.length ci, .slice Af c.first.length cf, .slice Az c.sizes.length cz]) rfl (by kernel_rfl) (fun W hW => rl_cd rfl (by kernel_rfl) (blkRange ((HC1.keep HBK).keep hW) 0 rfl)) ?_
  refine ra_call 4 (some 19) rfl (by kernel_rfl) 23 #[.agg #[.slice Ai c.ins.length ci, .slice Af c.first.length cf, .slice Az c.sizes.length cz]] (by kernel_rfl) (hD ▸ check_code c _ _ (hcd0.keep (HBC.tr HR))) ?_
  rintro r WE ⟨rfl, hb⟩
  replace HR := HR.tr hb
  clear hb
  refine ⟨_, rfl, HR, ?_⟩
  refine ra_call 6 (some 21) rfl (by kernel_rfl) 15 #[.agg #[.slice Ai c.ins.length ci, .slice Af c.first.length cf, .slice Az c.sizes.length cz]] (by kernel_rfl) (hD ▸ checkCode_any c _ _ (hcd0.keep (HBC.tr HR))) ?_
  rintro r WE ⟨rfl, hb⟩
  replace HR := HR.tr hb
  clear hb
  refine ⟨_, rfl, HR, ?_⟩
  refine ra_take 7 (some 22) (.bool false) rfl (by kernel_rfl) (fun W hW => rb_neqR (k := D) (l := D) rfl (by kernel_rfl) (by kernel_rfl) hkD) ?_
  refine ra_take 8 (some 23) (.bool false) rfl (by kernel_rfl) (fun W hW => by kernel_rfl) ?_
  refine ra_take 9 (some 24) (.bool false) rfl (by kernel_rfl) (fun W hW => by kernel_rfl) ?_
  refine ra_take 10 (some 25) (.int .i64 E) rfl (by kernel_rfl) (fun W hW => by kernel_rfl) ?_
  refine ra_take 11 (some 26) (.int .i64 E) rfl (by kernel_rfl) (fun W hW => by kernel_rfl) ?_
  refine ra_take 12 (some 27) (.bool false) rfl (by kernel_rfl) (fun W hW => rb_neqR (k := E) (l := E) rfl (by kernel_rfl) (by kernel_rfl) hkE) ?_
  refine ra_take 13 (some 28) (.bool false) rfl (by kernel_rfl) (fun W hW => by kernel_rfl) ?_
  refine ra_done (by kernel_rfl) ?_
  replace HBC := HBC.tr HR
  replace HBX := HBX.tr HR
  clear HR
  refine la_code ?_
  refine ca_false (by kernel_rfl) (by kernel_rfl) ?_
  refine ca_skip ?_
  refine la_code ?_
  refine ca_seq ?_
  refine ca_seq ?_
  refine ca_region ?_
  refine wa_q (some 29) (.int .i64 E) (by kernel_rfl) ?_
  obtain ⟨zc1, hzc1⟩ : ∃ b : Bool, ((E : Int) != 0) = b := ⟨_, rfl⟩
  refine wa_do (some 30) (.bool zc1) (by kernel_rfl) (by kernel_rfl) (rb_neqR (k := E) (l := 0) rfl (by kernel_rfl) (by kernel_rfl) hzc1) ?_
  refine wa_nil ?_
  refine la_code ?_
  cases zc1 with
  | true =>
    have hq : (((E : Int) != 0)) = true := by rw [hzc1]
    simp only [sB] at hq
    have hnil := hnl hq
    refine ca_true (by kernel_rfl) (by kernel_rfl) ?_
    refine ca_seq ?_
    refine ca_region ?_
    refine wa_q (some 31) (.pointer (some ⟨xb, 0, none⟩)) (by kernel_rfl) ?_
    refine wa_do (some 32) (.slice none 0 0) (by kernel_rfl) (by kernel_rfl) (rl_ins rfl (by kernel_rfl) ((HX.keep HBX).cell (i := 0) (v := .slice none 0 0) (by rw [hnil.1, hnil.2.1, hnil.2.2]; rfl))) ?_
    refine wa_q (some 33) (.int .i64 0) (by kernel_rfl) ?_
    refine wa_q (some 34) (.pointer (some ⟨xb, 1, none⟩)) (by kernel_rfl) ?_
    refine wa_do (some 35) (.slice none 0 0) (by kernel_rfl) (by kernel_rfl) (rl_is rfl (by kernel_rfl) ((HX.keep HBX).cell (i := 1) (v := .slice none 0 0) (by rw [hnil.1, hnil.2.1, hnil.2.2]; rfl))) ?_
    refine wa_q (some 36) (.int .i64 0) (by kernel_rfl) ?_
    refine wa_do (some 37) (.int .i64 0) (by kernel_rfl) (by kernel_rfl) (rb_add64 (k := 0) (l := 0) rfl (by kernel_rfl) (by kernel_rfl) (by omega) (by omega) (by omega)) ?_
    refine wa_q (some 38) (.pointer (some ⟨xb, 2, none⟩)) (by kernel_rfl) ?_
    refine wa_do (some 39) (.slice none 0 0) (by kernel_rfl) (by kernel_rfl) (rl_vvM rfl (by kernel_rfl) ((HX.keep HBX).cell (i := 2) (v := .slice none 0 0) (by rw [hnil.1, hnil.2.1, hnil.2.2]; rfl))) ?_
    refine wa_q (some 40) (.int .i64 0) (by kernel_rfl) ?_
    refine wa_do (some 41) (.int .i64 0) (by kernel_rfl) (by kernel_rfl) (rb_add64 (k := 0) (l := 0) rfl (by kernel_rfl) (by kernel_rfl) (by omega) (by omega) (by omega)) ?_
    refine wa_q (some 42) (.bool true) (by kernel_rfl) ?_
    refine wa_q (some 4) (.bool true) (by kernel_rfl) ?_
    refine wa_nil ?_
    refine la_code ?_
    refine ca_ret ?_
    refine la_then_ret ?_
    refine la_ret1 4 (.bool true) rfl (by kernel_rfl) ?_
    exact ⟨rfl, HBC⟩
  | false =>
    have hq : (((E : Int) != 0)) = false := by rw [hzc1]
    simp only [sB] at hq
    have hE0 : E = 0 := by omega
    refine ca_false (by kernel_rfl) (by kernel_rfl) ?_
    refine ca_skip ?_
    refine la_code ?_
    refine ca_seq ?_
    refine ca_region ?_
    refine wa_do (some 43) (.agg #[vi, vf, vz]) (by kernel_rfl) (by kernel_rfl) (rl_cd rfl (by kernel_rfl) (blkRange (HX.keep HBX) 0 rfl)) ?_
    refine wa_sy (some 44) (.int .i64 0) (by kernel_rfl) (by kernel_rfl) 15 #[.agg #[vi, vf, vz]] (by kernel_rfl) ((compP_ok (errP_ok (hE.trans hE0))) ▸ checkCode_any (compP ps) _ _ ((hcr hE0).keep HBX)) ?_
    intro W7 hb
    replace HBC := HBC.tr hb
    clear hb
    refine wa_q (some 45) (.bool true) (by kernel_rfl) ?_
    refine wa_q (some 4) (.bool true) (by kernel_rfl) ?_
    refine wa_nil ?_
    refine la_code ?_
    refine ca_ret ?_
    refine la_ret1 4 (.bool true) rfl (by kernel_rfl) ?_
    exact ⟨rfl, HBC⟩
end Go.Proofs.Ytgkpplbomciehaa
