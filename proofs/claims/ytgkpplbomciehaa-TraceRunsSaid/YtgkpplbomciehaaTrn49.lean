/- Runs, as the laws ask for them. From a contract 'it answers true and leaves all that there was' to what a law's row asks: arguments opened, read again, the frame. Arguments of a law, opened: lists of events. Each lemma states its own conditions. -/
import Derived.Test.YtgkpplbomciehaaTrn43
import Derived.Test.YtgkpplbomciehaaTrn44
import Derived.Test.YtgkpplbomciehaaTrn46
import Derived.Test.YtgkpplbomciehaaTrn45
import Derived.Test.YtgkpplbomciehaaTrn48
import Derived.Test.YtgkpplbomciehaaTrn01
import Derived.ProofKit
import Derived.SizedLaws
import Derived.Deep.Slices
import Derived.OpenShut
import Derived.Test.YtgkpplbomciehaaRows
namespace Go.Proofs.Ytgkpplbomciehaa
open Go.RowKit
set_option maxRecDepth 20000 in
theorem checkTrace_any (ps : List PF) (inp : List Int) (fuel : Int) (vp vi : Value) (w : World) (hs : Sl pfR w vp ps) (hi : Sl intR w vi inp) :
    Calls Try.prog 29 #[.agg #[vp], vi, .int .i64 fuel] w fun r w' => r = .returned (.int .i64 (runE ps inp fuel)) ∧ Bel w w' := by
  obtain ⟨Ap, cp, rfl, -⟩ := sl_lit hs
  obtain ⟨Ai, ci, rfl, -⟩ := sl_lit hi
  have HB1 : Bel w (w.alloc (.cells #[.slice Ap ps.length cp] PGT)) := (Bel.rfl_ w).al _
  have HP1 := Blk.new w PGT #[.slice Ap ps.length cp]
  have HE : runE ps inp fuel = if errP ps ≠ 0 then errP ps else readyE inp fuel := rfl
  obtain ⟨E, hE⟩ : ∃ E, errP ps = E := ⟨_, rfl⟩
  obtain ⟨R, hR⟩ : ∃ R, readyE inp fuel = R := ⟨_, rfl⟩
  rw [hE, hR] at HE
  refine af_enter (c := _) (args := [.agg #[.slice Ap ps.length cp], .slice Ai inp.length ci, .int .i64 fuel]) Try.func29 rfl Try.ntmps29 (by kernel_rfl) ?_
  refine ca_seq ?_
  refine ca_region ?_
  refine wa_w (some 3) (.pointer (some ⟨w.heap.size, 0, none⟩)) (w.alloc (.cells #[.slice Ap ps.length cp] PGT)) (by kernel_rfl) ?_
  generalize w.alloc (.cells #[.slice Ap ps.length cp] PGT) = W1 at *
  generalize w.heap.size = Q at *
  have HBC := HB1
  refine wa_q (some 6) (.int .i64 0) (by kernel_rfl) ?_
  refine wa_nil ?_
  have HBK := Bel.rfl_ W1
  refine la_code ?_
  refine ca_seq ?_
  refine ca_region ?_
  refine wa_do (some 8) (.agg #[.slice Ap ps.length cp]) (by kernel_rfl) (by kernel_rfl) (rl_pg rfl (by kernel_rfl) ((HP1.keep HBK).cell (i := 0) rfl)) ?_
  refine wa_sy (some 9) (.int .i64 E) (by kernel_rfl) (by kernel_rfl) 21 #[.agg #[.slice Ap ps.length cp]] (by kernel_rfl) (hE ▸ checkProgram_any ps _ _ (hs.keep HBC)) ?_
  intro WD hb
  replace HBC := HBC.tr hb
  replace HBK := HBK.tr hb
  clear hb
  refine wa_q (some 7) (.int .i64 E) (by kernel_rfl) ?_
  refine wa_nil ?_
  refine la_code ?_
  refine ca_seq ?_
  refine ca_seq ?_
  refine ca_region ?_
  refine wa_q (some 10) (.int .i64 E) (by kernel_rfl) ?_
  obtain ⟨zc1, hzc1⟩ : ∃ b : Bool, ((E : Int) == 0) = b := ⟨_, rfl⟩
  refine wa_do (some 11) (.bool zc1) (by kernel_rfl) (by kernel_rfl) (rb_eqlR (k := E) (l := 0) rfl (by kernel_rfl) (by kernel_rfl) hzc1) ?_
  refine wa_nil ?_
  refine la_code ?_
  cases zc1 with
  | true =>
    have hq : (((E : Int) == 0)) = true := by rw [hzc1]
    simp only [beq_iff_eq] at hq
    refine ca_true (by kernel_rfl) (by kernel_rfl) ?_
    refine ca_region ?_
    refine wa_q (some 12) (.slice Ai inp.length ci) (by kernel_rfl) ?_
    refine wa_q (some 13) (.int .i64 fuel) (by kernel_rfl) ?_
    refine wa_sy (some 14) (.int .i64 R) (by kernel_rfl) (by kernel_rfl) 16 #[.slice Ai inp.length ci, .int .i64 fuel] (by kernel_rfl) (hR ▸ checkIn_any inp fuel _ _ (hi.keep HBC)) ?_
    intro WD hb
    replace HBC := HBC.tr hb
    replace HBK := HBK.tr hb
    clear hb
    refine wa_q (some 7) (.int .i64 R) (by kernel_rfl) ?_
    refine wa_nil ?_
    refine la_code ?_
    refine ca_seq ?_
    refine ca_region ?_
    refine wa_q (some 15) (.int .i64 R) (by kernel_rfl) ?_
    refine wa_q (some 6) (.int .i64 R) (by kernel_rfl) ?_
    refine wa_nil ?_
    refine la_code ?_
    refine ca_ret ?_
    refine la_ret1 6 (.int .i64 R) rfl (by kernel_rfl) ?_
    exact ⟨by rw [HE, if_neg (by omega)], HBC⟩
  | false =>
    have hq : (((E : Int) == 0)) = false := by rw [hzc1]
    simp only [beq_eq_false_iff_ne, ne_eq] at hq
    refine ca_false (by kernel_rfl) (by kernel_rfl) ?_
    refine ca_skip ?_
    refine la_code ?_
    refine ca_seq ?_
    refine ca_region ?_
    refine wa_q (some 15) (.int .i64 E) (by kernel_rfl) ?_
    refine wa_q (some 6) (.int .i64 E) (by kernel_rfl) ?_
    refine wa_nil ?_
    refine la_code ?_
    refine ca_ret ?_
    refine la_ret1 6 (.int .i64 E) rfl (by kernel_rfl) ?_
    exact ⟨by rw [HE, if_pos hq], HBC⟩
def AreEv (l l2 : List Ev) (h k : Int) : Prop := h = k ∧ l = if k ≠ 0 then [] else l2
set_option maxRecDepth 20000 in
theorem eventsAre_any (l l2 : List Ev) (h k : Int) (v v2 : Value) (w : World) (hx : Sl evR w v l) (hy : Sl evR w v2 l2) (hlx : ok64 l.length) (hly : ok64 l2.length) :
    Calls Try.prog 19 #[v, .int .i64 h, .int .i64 k, v2] w fun r w' => ∃ b, r = .returned (.bool b) ∧ (b = true ↔ AreEv l l2 h k) ∧ Bel w w' := by
  obtain ⟨A, c, rfl, hl⟩ := sl_lit hx
  obtain ⟨B, d, rfl, hl2⟩ := sl_lit hy
  have HBC := Bel.rfl_ w
  refine af_enter (c := _) (args := [.slice A l.length c, .int .i64 h, .int .i64 k, .slice B l2.length d]) Try.func19 rfl Try.ntmps19 (by kernel_rfl) ?_
  refine ca_seq ?_
  refine ca_region ?_
  refine wa_q (some 8) (.bool false) (by kernel_rfl) ?_
  refine wa_nil ?_
  refine la_code ?_
  refine ca_seq ?_
  refine ca_seq ?_
  refine ca_region ?_
  refine wa_q (some 9) (.int .i64 k) (by kernel_rfl) ?_
  obtain ⟨zc1, hzc1⟩ : ∃ b : Bool, ((k : Int) != 0) = b := ⟨_, rfl⟩
  refine wa_do (some 10) (.bool zc1) (by kernel_rfl) (by kernel_rfl) (rb_neqR (k := k) (l := 0) rfl (by kernel_rfl) (by kernel_rfl) hzc1) ?_
  refine wa_nil ?_
  refine la_code ?_
  cases zc1 with
  | true =>
    have hq : (((k : Int) != 0)) = true := by rw [hzc1]
    simp only [bne_iff_ne, ne_eq] at hq
    have hL : Sl evR w (.slice none 0 0) [] := Sl.nil_ _ _
    have hm : (if k ≠ 0 then [] else l2) = ([] : List Ev) := if_pos hq
    refine ca_true (by kernel_rfl) (by kernel_rfl) ?_
    refine ca_region ?_
    refine wa_q (some 3) (.slice none 0 0) (by kernel_rfl) ?_
    refine wa_nil ?_
    refine la_code ?_
    refine ca_seq ?_
    refine ca_region ?_
    refine wa_q (some 11) (.int .i64 h) (by kernel_rfl) ?_
    refine wa_q (some 12) (.int .i64 k) (by kernel_rfl) ?_
    obtain ⟨zc2, hzc2⟩ : ∃ b : Bool, ((h : Int) == k) = b := ⟨_, rfl⟩
    refine wa_do (some 13) (.bool zc2) (by kernel_rfl) (by kernel_rfl) (rb_eqlR (k := h) (l := k) rfl (by kernel_rfl) (by kernel_rfl) hzc2) ?_
    refine wa_q (some 14) (.bool zc2) (by kernel_rfl) ?_
    refine wa_if (some 15) zc2 (.slice A l.length c) (by kernel_rfl) (by kernel_rfl) (by cases zc2 <;> kernel_rfl) (fun hG => by subst hG; kernel_rfl) ?_
    refine wa_if (some 16) zc2 (.slice none 0 0) (by kernel_rfl) (by kernel_rfl) (by cases zc2 <;> kernel_rfl) (fun hG => by subst hG; kernel_rfl) ?_
    obtain ⟨zb9, hzb9⟩ : ∃ b : Bool, decide (l = []) = b := ⟨_, rfl⟩
    refine wa_callif (some 17) zc2 (.bool zb9) (by kernel_rfl) (by kernel_rfl) (by cases zc2 <;> kernel_rfl) 33 #[.slice A l.length c, .slice none 0 0] (fun hG => by subst hG; kernel_rfl) (hzb9 ▸ sameEvents_any _ _ l [] _ (hx.keep HBC) (hL.keep HBC) hlx (Nat.zero_le _)) ?_
    intro WD hb
    replace HBC := HBC.tr hb
    clear hb
    obtain ⟨zr3, hzr3⟩ : ∃ b : Bool, (zc2 && zb9) = b := ⟨_, rfl⟩
    refine wa_do (some 18) (.bool zr3) (by kernel_rfl) (by kernel_rfl) (by subst hzr3; cases zc2 <;> (kernel_rfl)) ?_
    refine wa_q (some 8) (.bool zr3) (by kernel_rfl) ?_
    refine wa_nil ?_
    refine la_code ?_
    refine ca_ret ?_
    refine la_ret1 8 (.bool zr3) rfl (by kernel_rfl) ?_
    refine ⟨_, rfl, ?_, HBC⟩
    unfold AreEv
    rw [hm]
    subst_vars
    simp
  | false =>
    have hq : (((k : Int) != 0)) = false := by rw [hzc1]
    simp only [bne_eq_false_iff_eq] at hq
    have hL := hy
    have hm : (if k ≠ 0 then [] else l2) = l2 := if_neg (by omega)
    refine ca_false (by kernel_rfl) (by kernel_rfl) ?_
    refine ca_skip ?_
    refine la_code ?_
    refine ca_seq ?_
    refine ca_region ?_
    refine wa_q (some 11) (.int .i64 h) (by kernel_rfl) ?_
    refine wa_q (some 12) (.int .i64 k) (by kernel_rfl) ?_
    obtain ⟨zc4, hzc4⟩ : ∃ b : Bool, ((h : Int) == k) = b := ⟨_, rfl⟩
    refine wa_do (some 13) (.bool zc4) (by kernel_rfl) (by kernel_rfl) (rb_eqlR (k := h) (l := k) rfl (by kernel_rfl) (by kernel_rfl) hzc4) ?_
    refine wa_q (some 14) (.bool zc4) (by kernel_rfl) ?_
    refine wa_if (some 15) zc4 (.slice A l.length c) (by kernel_rfl) (by kernel_rfl) (by cases zc4 <;> kernel_rfl) (fun hG => by subst hG; kernel_rfl) ?_
    refine wa_if (some 16) zc4 (.slice B l2.length d) (by kernel_rfl) (by kernel_rfl) (by cases zc4 <;> kernel_rfl) (fun hG => by subst hG; kernel_rfl) ?_
    obtain ⟨zb9, hzb9⟩ : ∃ b : Bool, decide (l = l2) = b := ⟨_, rfl⟩
    refine wa_callif (some 17) zc4 (.bool zb9) (by kernel_rfl) (by kernel_rfl) (by cases zc4 <;> kernel_rfl) 33 #[.slice A l.length c, .slice B l2.length d] (fun hG => by subst hG; kernel_rfl) (hzb9 ▸ sameEvents_any _ _ l l2 _ (hx.keep HBC) (hL.keep HBC) hlx hly) ?_
    intro WD hb
    replace HBC := HBC.tr hb
    clear hb
    obtain ⟨zr5, hzr5⟩ : ∃ b : Bool, (zc4 && zb9) = b := ⟨_, rfl⟩
    refine wa_do (some 18) (.bool zr5) (by kernel_rfl) (by kernel_rfl) (by subst hzr5; cases zc4 <;> (kernel_rfl)) ?_
    refine wa_q (some 8) (.bool zr5) (by kernel_rfl) ?_
    refine wa_nil ?_
    refine la_code ?_
    refine ca_ret ?_
    refine la_ret1 8 (.bool zr5) rfl (by kernel_rfl) ?_
    refine ⟨_, rfl, ?_, HBC⟩
    unfold AreEv
    rw [hm]
    subst_vars
    simp
theorem RunIs.one {ps : List PF} {inp : List Int} {fuel : Int} {w : World} {r : Ending} {w' : World} (h : RunIs ps inp fuel w r w') : Bel w w' ∧ ∃ A c out, r = .returned (.tuple #[.slice A out.length c, .int .i64 (runE ps inp fuel)]) ∧ Sl evR w' (.slice A out.length c) out ∧ (runE ps inp fuel ≠ 0 → out = []) ∧ (runE ps inp fuel = 0 → Ran ps inp fuel out) := by
  obtain ⟨hb, ⟨h0, rfl⟩ | ⟨h0, u, out, rfl, hr, ho⟩⟩ := h
  · exact ⟨hb, none, 0, [], rfl, Sl.nil_ _ _, fun _ => rfl, fun h => absurd h h0⟩
  · obtain ⟨A, c, rfl⟩ := own_shape ho
    rw [h0]
    exact ⟨hb, A, c, out, rfl, Sl.own_ev ho rfl, fun h => absurd rfl h, fun _ => hr⟩
set_option maxRecDepth 20000 in
theorem runs_any (ps : List PF) (inp : List Int) (fuel : Int) (vp vi : Value) (w : World) (hs : Sl pfR w vp ps) (hi : Sl intR w vi inp) :
    Calls Try.prog 6 #[.agg #[vp], vi, .int .i64 fuel] w fun r w' => r = .returned (.bool true) ∧ Bel w w' := by
  obtain ⟨Ap, cp, rfl, -⟩ := sl_lit hs
  obtain ⟨Ai, ci, rfl, -⟩ := sl_lit hi
  have HB1 : Bel w (w.alloc (.cells #[.slice Ap ps.length cp] PGT)) := (Bel.rfl_ w).al _
  have HP1 := Blk.new w PGT #[.slice Ap ps.length cp]
  obtain ⟨E, hE⟩ : ∃ E, runE ps inp fuel = E := ⟨_, rfl⟩
  have hok : E = 0 → Prog ps ∧ inp.length ≤ 50 ∧ (∀ n ∈ inp, Num n) ∧ 0 ≤ fuel ∧ fuel ≤ 500 := fun h0 => by
    rw [← hE] at h0
    unfold runE at h0
    split at h0
    · omega
    · exact ⟨errP_ok (by omega), readyE_ok h0⟩
  refine af_enter (c := _) (args := [.agg #[.slice Ap ps.length cp], .slice Ai inp.length ci, .int .i64 fuel]) Try.func6 rfl Try.ntmps6 (by kernel_rfl) ?_
  refine ca_seq ?_
  refine ca_region ?_
  refine wa_w (some 3) (.pointer (some ⟨w.heap.size, 0, none⟩)) (w.alloc (.cells #[.slice Ap ps.length cp] PGT)) (by kernel_rfl) ?_
  generalize w.alloc (.cells #[.slice Ap ps.length cp] PGT) = W1 at *
  generalize w.heap.size = Q at *
  have HBC := HB1
  refine wa_q (some 6) (.bool false) (by kernel_rfl) ?_
  refine wa_nil ?_
  have HBK := Bel.rfl_ W1
  refine la_code ?_
  refine ca_seq ?_
  refine ca_region ?_
  refine wa_do (some 12) (.agg #[.slice Ap ps.length cp]) (by kernel_rfl) (by kernel_rfl) (rl_pg rfl (by kernel_rfl) ((HP1.keep HBK).cell (i := 0) rfl)) ?_
  refine wa_q (some 13) (.slice Ai inp.length ci) (by kernel_rfl) ?_
  refine wa_q (some 14) (.int .i64 fuel) (by kernel_rfl) ?_
  refine wa_call (some 15) (by kernel_rfl) (by kernel_rfl) 28 #[.agg #[.slice Ap ps.length cp], .slice Ai inp.length ci, .int .i64 fuel] (by kernel_rfl) (run_any ps inp fuel _ _ _ (hs.keep HBC) (hi.keep HBC)) ?_
  rintro r WD hr
  obtain ⟨hb, A, c, out, rfl, HS, hne, hran⟩ := hr.one
  rw [hE] at hne hran
  replace HBC := HBC.tr hb
  replace HBK := HBK.tr hb
  clear hb
  refine ⟨_, by rw [hE], ?_⟩
  refine wa_q (some 11) (.tuple #[.slice A out.length c, .int .i64 E]) (by kernel_rfl) ?_
  refine wa_q (some 16) (.slice A out.length c) (by kernel_rfl) ?_
  refine wa_q (some 17) (.int .i64 E) (by kernel_rfl) ?_
  refine wa_q (some 7) (.slice A out.length c) (by kernel_rfl) ?_
  refine wa_q (some 8) (.int .i64 E) (by kernel_rfl) ?_
  refine wa_nil ?_
  refine la_code ?_
  refine ca_seq ?_
  refine ca_region ?_
  refine wa_do (some 18) (.agg #[.slice Ap ps.length cp]) (by kernel_rfl) (by kernel_rfl) (rl_pg rfl (by kernel_rfl) ((HP1.keep HBK).cell (i := 0) rfl)) ?_
  refine wa_q (some 19) (.slice Ai inp.length ci) (by kernel_rfl) ?_
  refine wa_q (some 20) (.int .i64 fuel) (by kernel_rfl) ?_
  refine wa_sy (some 21) (.int .i64 E) (by kernel_rfl) (by kernel_rfl) 29 #[.agg #[.slice Ap ps.length cp], .slice Ai inp.length ci, .int .i64 fuel] (by kernel_rfl) (hE ▸ checkTrace_any ps inp fuel _ _ _ (hs.keep HBC) (hi.keep HBC)) ?_
  intro WE hb
  replace HBC := HBC.tr hb
  replace HBK := HBK.tr hb
  replace HS := HS.keep hb
  clear hb
  refine wa_q (some 9) (.int .i64 E) (by kernel_rfl) ?_
  refine wa_nil ?_
  refine la_code ?_
  refine ca_seq ?_
  refine ca_region ?_
  refine wa_q (some 10) (.slice none 0 0) (by kernel_rfl) ?_
  refine wa_nil ?_
  refine la_code ?_
  refine ca_seq ?_
  refine ca_seq ?_
  refine ca_region ?_
  refine wa_q (some 22) (.int .i64 E) (by kernel_rfl) ?_
  obtain ⟨zc1, hzc1⟩ : ∃ b : Bool, ((E : Int) == 0) = b := ⟨_, rfl⟩
  refine wa_do (some 23) (.bool zc1) (by kernel_rfl) (by kernel_rfl) (rb_eqlR (k := E) (l := 0) rfl (by kernel_rfl) (by kernel_rfl) hzc1) ?_
  refine wa_nil ?_
  refine la_code ?_
  cases zc1 with
  | true =>
    have hq : (((E : Int) == 0)) = true := by rw [hzc1]
    simp only [beq_iff_eq] at hq
    obtain ⟨hprog, h50, hnum, hf0, hf5⟩ := hok hq
    refine ca_true (by kernel_rfl) (by kernel_rfl) ?_
    refine ca_region ?_
    refine wa_do (some 24) (.agg #[.slice Ap ps.length cp]) (by kernel_rfl) (by kernel_rfl) (rl_pg rfl (by kernel_rfl) ((HP1.keep HBK).cell (i := 0) rfl)) ?_
    refine wa_q (some 25) (.slice Ai inp.length ci) (by kernel_rfl) ?_
    refine wa_q (some 26) (.int .i64 fuel) (by kernel_rfl) ?_
    refine wa_call (some 27) (by kernel_rfl) (by kernel_rfl) 30 #[.agg #[.slice Ap ps.length cp], .slice Ai inp.length ci, .int .i64 fuel] (by kernel_rfl) (traceOf_any hprog (hs.keep HBC) (hi.keep HBC) hnum (by omega) hf0 (by omega)) ?_
    rintro r WF ⟨out2, u2, rfl, HS2, hran2, hb⟩
    obtain ⟨A2, c2, rfl, -⟩ := sl_lit HS2
    replace HBC := HBC.tr hb
    replace HS := HS.keep hb
    clear hb
    refine ⟨_, rfl, ?_⟩
    refine wa_q (some 10) (.slice A2 out2.length c2) (by kernel_rfl) ?_
    refine wa_nil ?_
    refine la_code ?_
    refine ca_seq ?_
    have hsm := (hran hq).same hran2
    have hlen := (hran hq).len hprog hnum hf0
    have hl1 : ok64 out.length := by unfold ok64; omega
    have hl2 : ok64 out2.length := by rw [← hsm]; exact hl1
    have hare : AreEv out out2 E E := ⟨rfl, by rw [if_neg (by omega)]; exact hsm⟩
    refine ca_region ?_
    refine wa_sy (some 28) (.bool true) (by kernel_rfl) (by kernel_rfl) 27 #[] (by kernel_rfl) (traceBegun_any _) ?_
    intro WG hb
    replace HBC := HBC.tr hb
    replace HS := HS.keep hb
    replace HS2 := HS2.keep hb
    clear hb
    refine wa_q (some 29) (.bool true) (by kernel_rfl) ?_
    refine wa_q (some 30) (.slice A out.length c) (by kernel_rfl) ?_
    refine wa_q (some 31) (.int .i64 E) (by kernel_rfl) ?_
    refine wa_q (some 32) (.int .i64 E) (by kernel_rfl) ?_
    refine wa_q (some 33) (.slice A2 out2.length c2) (by kernel_rfl) ?_
    refine wa_sy (some 34) (.bool true) (by kernel_rfl) (by kernel_rfl) 19 #[.slice A out.length c, .int .i64 E, .int .i64 E, .slice A2 out2.length c2] (by kernel_rfl) ((eventsAre_any out out2 E E _ _ _ HS HS2 hl1 hl2).mono (fun r W hh => by obtain ⟨b, rfl, hb1, hb2⟩ := hh; exact ⟨by rw [hb1.2 hare], hb2⟩)) ?_
    intro WH hb
    replace HBC := HBC.tr hb
    clear hb
    refine wa_q (some 35) (.bool true) (by kernel_rfl) ?_
    refine wa_q (some 6) (.bool true) (by kernel_rfl) ?_
    refine wa_nil ?_
    refine la_code ?_
    refine ca_ret ?_
    refine la_ret1 6 (.bool true) rfl (by kernel_rfl) ?_
    exact ⟨rfl, HB1.tr (Bel.rfl_ _) |>.tr (Bel.rfl_ _) |> fun _ => HBC⟩
  | false =>
    have hq : (((E : Int) == 0)) = false := by rw [hzc1]
    simp only [beq_eq_false_iff_ne, ne_eq] at hq
    have HS2 : Sl evR WE (.slice none 0 0) [] := Sl.nil_ _ _
    have hl1 : ok64 out.length := by rw [hne (by omega)]; exact Nat.zero_le _
    have hl2 : ok64 ([] : List Ev).length := Nat.zero_le _
    have hare : AreEv out [] E E := ⟨rfl, by rw [hne (by omega)]; simp⟩
    refine ca_false (by kernel_rfl) (by kernel_rfl) ?_
    refine ca_skip ?_
    refine la_code ?_
    refine ca_seq ?_
    refine ca_region ?_
    refine wa_sy (some 28) (.bool true) (by kernel_rfl) (by kernel_rfl) 27 #[] (by kernel_rfl) (traceBegun_any _) ?_
    intro WG hb
    replace HBC := HBC.tr hb
    replace HS := HS.keep hb
    replace HS2 := HS2.keep hb
    clear hb
    refine wa_q (some 29) (.bool true) (by kernel_rfl) ?_
    refine wa_q (some 30) (.slice A out.length c) (by kernel_rfl) ?_
    refine wa_q (some 31) (.int .i64 E) (by kernel_rfl) ?_
    refine wa_q (some 32) (.int .i64 E) (by kernel_rfl) ?_
    refine wa_q (some 33) (.slice none 0 0) (by kernel_rfl) ?_
    refine wa_sy (some 34) (.bool true) (by kernel_rfl) (by kernel_rfl) 19 #[.slice A out.length c, .int .i64 E, .int .i64 E, .slice none 0 0] (by kernel_rfl) ((eventsAre_any out [] E E _ _ _ HS HS2 hl1 hl2).mono (fun r W hh => by obtain ⟨b, rfl, hb1, hb2⟩ := hh; exact ⟨by rw [hb1.2 hare], hb2⟩)) ?_
    intro WH hb
    replace HBC := HBC.tr hb
    clear hb
    refine wa_q (some 35) (.bool true) (by kernel_rfl) ?_
    refine wa_q (some 6) (.bool true) (by kernel_rfl) ?_
    refine wa_nil ?_
    refine la_code ?_
    refine ca_ret ?_
    refine la_ret1 6 (.bool true) rfl (by kernel_rfl) ?_
    exact ⟨rfl, HB1.tr (Bel.rfl_ _) |>.tr (Bel.rfl_ _) |> fun _ => HBC⟩
end Go.Proofs.Ytgkpplbomciehaa
namespace Go.Proofs.Ytgkpplbomciehaa
open Go.ChangeShapes Go.WideShapes Go.ChangeAt Go.RowKit
section
variable {H : Type} {enc : TypeId × Value → H} {P : Program}
theorem trodAll_stays (hl : laidOutB P = true) {W W' : World} (hb : Bel W W') : ∀ {ts : List TypeId} {vs : List Value} {ds : List (DataW H)} {ps : List MemPlace}, (∀ t ∈ ts, P.readableRec t = true ∧ t < P.types.size) →
    DataW.TrodAll enc P W 0 (fun _ => true) true ts vs ds ps → (∀ x ∈ ps, x.block < W.heap.size) → DataW.TrodAll enc P W' 0 (fun b => decide (b < W.heap.size)) true ts vs ds ps
  | [], vs, ds, ps, _, h, _ => by
    obtain ⟨rfl, rfl, rfl⟩ := trodAll_nil h
    exact trodAll_mk0
  | t :: ts, vs, ds, ps, ht, h, hlt => by
    obtain ⟨v, vs', d, ds', p, p', rfl, rfl, rfl, h0, h1⟩ := trodAll_cons h
    obtain ⟨hr, hrow⟩ := ht t (by simp)
    exact trodAll_cons_mk (Below.trod hl hr hrow h0 hb (fun x hx => hlt x (by simp [hx]))) (trodAll_stays hl hb (fun t h => ht t (by simp [h])) h1 (fun x hx => hlt x (by simp [hx])))
/-- A LAW's ROW: it answers true; the arguments read as they did. -/
theorem law_post {fn : Func} {s : ChangeSpec} {tb : TypeId} (hv : s.vars = []) (hrt : fn.resultTypes = #[tb]) (htb : P.underlying tb = some .bool) (hl : laidOutB P = true) (hp : ∀ t ∈ fn.params.toList, P.readableRec t = true ∧ t < P.types.size)
    {W W' : World} {args : Array Value} {ds gs : List (DataW H)} {before : List MemPlace} (hW : DataW.Whole enc P fn.params.toList s.vars false W args.toList ds gs before)
    (hs : s.fn H (ds ++ gs) = { results := [.lit (.bool true)], args := ds }) (hb : Bel W W') : s.post enc P fn false true false false W args (.bool true) W' := by
  have hW' := hW
  obtain ⟨p, q, hA, hV, rfl, _, _⟩ := hW
  rw [hv] at hV
  obtain ⟨rfl, rfl⟩ := trodVars_none hV
  have hlt : ∀ x ∈ p, x.block < W.heap.size := fun x hx => hW'.lt x (by simp [hx])
  refine ⟨ds, [], p ++ [], [], p, [], hW', ?_, ?_, ?_, hb.frame _, fun h => by cases h⟩
  · rw [hs, hrt]
    have e : (Value.bool true).resultList (#[tb].size) = [Value.bool true] := rfl
    rw [e]
    exact trodAll_mk1 (shut_bool htb _)
  · rw [hs]
    exact trodAll_stays hl hb hp hA hlt
  · rw [hs, hv]
    rfl
/-- elements of a type, opened: what they read as, and what is known of it -/
def Opens (enc : TypeId × Value → H) (P : Program) (W : World) {α : Type} (r : Rep α) (ok : α → Prop) (e : TypeId) : Prop :=
  ∀ (n : Nat) (cs : List Value) (y : DataW H × List MemPlace), cs.length = r.size → DataW.trod enc P W 0 (fun _ => true) true n e cs = some y → ∃ x, r.R W cs x ∧ ok x
theorem cells_lit {w : World} {a : Addr} {n : Nat} {cs : List Value} (h : ∀ i, i < n → w.cell? (a.add i) = cs[i]?) (hl : cs.length = n) (hn : 0 < n) : a.spot = none := by
  have h0 := h 0 hn
  have : cs[0]? = some (cs[0]'(by omega)) := List.getElem?_eq_getElem (by omega)
  rw [this] at h0
  simpa [Addr.add] using World.cell?_spot h0
/-- a slice whose elements open -/
theorem open_sl {W : World} {α : Type} {r : Rep α} {ok : α → Prop} {t e : TypeId} (ht : P.underlying t = some (.slice e)) (hC : P.cellsOf e = r.size) (h0 : 0 < r.size) (hel : Opens enc P W r ok e)
    {fuel : Nat} {cs : List Value} {x : DataW H × List MemPlace} (h : DataW.trod enc P W 0 (fun _ => true) true fuel t cs = some x) :
    ∃ v xs, cs = [v] ∧ Sl r W v xs ∧ (∀ x ∈ xs, ok x) ∧ ((x.1 = .nil ∧ xs = []) ∨ ∃ elems spare, x.1 = .slice elems spare ∧ elems.length = xs.length) := by
  rcases Deep.open_slice ht h with ⟨rfl, rfl⟩ | ⟨a, len, cap, m, n, D, Pl, rfl, _, hlc, hcm, hm, rfl, hi⟩
  · exact ⟨_, [], rfl, Sl.nil_ _ _, by simp, .inl ⟨rfl, rfl⟩⟩
  · simp only [if_true] at hm
    subst hm
    rw [hC] at hi
    have hx : ∀ i, i < len → ∃ x, ok x ∧ ∃ cs', r.R W cs' x ∧ ∀ j, j < r.size → W.cell? ((a.add (i * r.size)).add j) = cs'[j]? := fun i hlt => by
      obtain ⟨cs', hc, htr⟩ := hi i (by omega)
      obtain ⟨_, hl, hcell⟩ := World.cells?_some hc
      obtain ⟨x, hR, hok⟩ := hel _ _ _ hl htr
      exact ⟨x, hok, cs', hR, hcell⟩
    have hspot : 0 < len → a.spot = none := fun hp => by
      obtain ⟨x, _, cs', hR, hcell⟩ := hx 0 hp
      refine cells_lit (w := W) (n := r.size) (cs := cs') (fun i hi' => ?_) (r.len hR) h0
      have := hcell i hi'
      simpa [Addr.add] using this
    refine ⟨_, (List.range len).pmap (fun i hi' => Classical.choose (hx i hi')) (fun i hi' => List.mem_range.1 hi'), rfl, ⟨some a, m, by simp, by simpa using hlc, ⟨hcm, fun h => by cases h⟩, fun hp => ?_⟩, ?_, .inr ⟨_, _, rfl, by simp⟩⟩
    · have hs := hspot (by simpa using hp)
      obtain ⟨b, o, sp⟩ := a
      simp only at hs
      subst hs
      refine ⟨b, o, rfl, fun k x hk => ?_⟩
      rw [List.getElem?_pmap] at hk
      have hk2 : k < len := by
        rcases Nat.lt_or_ge k len with h | h
        · exact h
        · simp [h] at hk
      simp only [List.getElem?_range hk2, Option.pmap_some, Option.some.injEq] at hk
      obtain ⟨_, cs', hR, hcell⟩ := Classical.choose_spec (hx k hk2)
      rw [hk] at hR
      refine ⟨cs', hR, fun j u hu => ?_⟩
      have hj : j < r.size := by rw [← r.len hR]; exact (List.getElem?_eq_some_iff.1 hu).1
      have h1 := hcell j hj
      rw [hu] at h1
      have e1 : ((⟨b, o, none⟩ : Addr).add (k * r.size)).add j = ⟨b, o + k * r.size + j, none⟩ := by
        unfold Addr.add
        by_cases hk0 : k * r.size = 0 <;> by_cases hj0 : j = 0 <;> simp [hk0, hj0]
      rw [e1] at h1
      exact h1
    · intro x hx'
      obtain ⟨i, hi', rfl⟩ := List.mem_pmap.1 hx'
      exact (Classical.choose_spec (hx i (List.mem_range.1 hi'))).1
/-- events whose numbers are those of ints -/
def isI64 (n : Int) : Prop := -9223372036854775808 ≤ n ∧ n ≤ 9223372036854775807
theorem isI64_of {n : Int} (h : (Lit.int .i64 n).wf = true) : isI64 n := by
  have h1 : IntKind.i64.min = -9223372036854775808 := rfl
  have h2 : IntKind.i64.max = 9223372036854775807 := rfl
  simp only [Lit.wf, Bool.and_eq_true, decide_eq_true_eq] at h
  unfold isI64
  omega
theorem opens_int {W : World} {t : TypeId} (ht : P.underlying t = some (.int .i64)) : Opens enc P W intR isI64 t := by
  intro n cs y _ h
  obtain ⟨k, rfl, _, hw⟩ := DataW.trod_int ht h
  exact ⟨k, rfl, isI64_of hw⟩
end
end Go.Proofs.Ytgkpplbomciehaa
namespace Go.Proofs.Ytgkpplbomciehaa
open Go.ChangeShapes Go.WideShapes Go.ChangeAt Go.RowKit
theorem ownK : ownKnob Try.prog.godebug = none := by kernel_rfl
theorem laidOutK : laidOutB Try.prog = true := by kernel_rfl
theorem cellsInt : Try.prog.cellsOf 3 = 1 := by kernel_rfl
end Go.Proofs.Ytgkpplbomciehaa
