/- The document's machine: its topmost frame, events, the end, writes: walked. Each lemma states its own conditions. -/
import Derived.Test.YtgkpplbomciehaaTrr19
import Derived.Test.YtgkpplbomciehaaTrr21
import Derived.Test.YtgkpplbomciehaaTrr28
namespace Go.Proofs.Ytgkpplbomciehaa
open Go.RowKit
theorem elFR : Elem Try.prog 116 FRT 5 72 := Elem.mk_ (z := .agg #[.int .i64 0, .int .i64 0, .int .i64 0, .slice none 0 0, .slice none 0 0]) (by kernel_rfl) (by kernel_rfl) rfl (by decide)
section
variable {o : Oper} {ρ : Operand → Value} {W : World} {x : Operand} {b f : Nat} {v : Value}
theorem rl_frs (ho : o.op = .load 116 x) (hx : ρ x = .pointer (some ⟨b, f, none⟩)) (hc : W.cell? ⟨b, f, none⟩ = some v) : (execOp ρ o).run Try.prog W = .ok (.value v) W := by
  simp [execOp, ho, hx, hc, go_sem]
theorem rl_evs (ho : o.op = .load 27 x) (hx : ρ x = .pointer (some ⟨b, f, none⟩)) (hc : W.cell? ⟨b, f, none⟩ = some v) : (execOp ρ o).run Try.prog W = .ok (.value v) W := by
  simp [execOp, ho, hx, hc, go_sem]
variable {y : Operand} {u : Value}
theorem rs_evs {A : Option Addr} {n c : Nat} (ho : o.op = .store 27 x y) (hx : ρ x = .pointer (some ⟨b, f, none⟩)) (hy : ρ y = .slice A n c) (hc : W.cell? ⟨b, f, none⟩ = some u) (hf : W.frozen? ⟨b, f, none⟩ = false) : (execOp ρ o).run Try.prog W = .ok .skip (W.setCell ⟨b, f, none⟩ (.slice A n c)) := by
  simp [execOp, ho, hx, hy, hc, hf, go_sem]
theorem rs_intM {n : Int} (ho : o.op = .store 3 x y) (hx : ρ x = .pointer (some ⟨b, f, none⟩)) (hy : ρ y = .int .i64 n) (hc : W.cell? ⟨b, f, none⟩ = some u) (hf : W.frozen? ⟨b, f, none⟩ = false) : (execOp ρ o).run Try.prog W = .ok .skip (W.setCell ⟨b, f, none⟩ (.int .i64 n)) := by
  simp [execOp, ho, hx, hy, hc, hf, go_sem]
theorem rs_boolM {n : Bool} (ho : o.op = .store 4 x y) (hx : ρ x = .pointer (some ⟨b, f, none⟩)) (hy : ρ y = .bool n) (hc : W.cell? ⟨b, f, none⟩ = some u) (hf : W.frozen? ⟨b, f, none⟩ = false) : (execOp ρ o).run Try.prog W = .ok .skip (W.setCell ⟨b, f, none⟩ (.bool n)) := by
  simp [execOp, ho, hx, hy, hc, hf, go_sem]
theorem rs_frs {A : Option Addr} {n c : Nat} (ho : o.op = .store 116 x y) (hx : ρ x = .pointer (some ⟨b, f, none⟩)) (hy : ρ y = .slice A n c) (hc : W.cell? ⟨b, f, none⟩ = some u) (hf : W.frozen? ⟨b, f, none⟩ = false) : (execOp ρ o).run Try.prog W = .ok .skip (W.setCell ⟨b, f, none⟩ (.slice A n c)) := by
  simp [execOp, ho, hx, hy, hc, hf, go_sem]
theorem rs_tks {A : Option Addr} {n c : Nat} (ho : o.op = .store 123 x y) (hx : ρ x = .pointer (some ⟨b, f, none⟩)) (hy : ρ y = .slice A n c) (hc : W.cell? ⟨b, f, none⟩ = some u) (hf : W.frozen? ⟨b, f, none⟩ = false) : (execOp ρ o).run Try.prog W = .ok .skip (W.setCell ⟨b, f, none⟩ (.slice A n c)) := by
  simp [execOp, ho, hx, hy, hc, hf, go_sem]
end
set_option maxRecDepth 20000 in
theorem mtop_any (q gf k cap : Nat) (w : World) (hc : w.cell? ⟨q, 6, none⟩ = some (.slice (some ⟨gf, 0, none⟩) (k + 1) cap)) (hk : k ≤ 1000) : Calls Try.prog 117 #[.pointer (some ⟨q, 0, none⟩)] w fun r w' => r = .returned (.pointer (some ⟨gf, k * 5, none⟩)) ∧ Bel w w' := by
  have HB := Bel.rfl_ w
  refine af_enter (c := _) (args := [.pointer (some ⟨q, 0, none⟩)]) Try.func117 rfl Try.ntmps117 (by kernel_rfl) ?_
  refine ca_seq ?_
  refine ca_region ?_
  refine wa_q (some 2) (.pointer none) (by kernel_rfl) ?_
  refine wa_nil ?_
  refine la_code ?_
  refine ca_seq ?_
  refine ca_still (by kernel_rfl) (by kernel_rfl) ?_
  refine ws_q (some 3) (.pointer (some ⟨q, 0, none⟩)) (by kernel_rfl) ?_
  refine ws_q (some 4) (.pointer (some ⟨q, 0, none⟩)) (by kernel_rfl) ?_
  refine ws_q (some 5) (.pointer (some ⟨q, 6, none⟩)) (by kernel_rfl) ?_
  refine ws_do (some 6) (.slice (some ⟨gf, 0, none⟩) (k + 1) cap) (by kernel_rfl) (by kernel_rfl) (rl_frs rfl (by kernel_rfl) (HB.dr.cell hc)) ?_
  refine ws_q (some 7) (.pointer (some ⟨q, 0, none⟩)) (by kernel_rfl) ?_
  refine ws_q (some 8) (.pointer (some ⟨q, 0, none⟩)) (by kernel_rfl) ?_
  refine ws_q (some 9) (.pointer (some ⟨q, 6, none⟩)) (by kernel_rfl) ?_
  refine ws_do (some 10) (.slice (some ⟨gf, 0, none⟩) (k + 1) cap) (by kernel_rfl) (by kernel_rfl) (rl_frs rfl (by kernel_rfl) (HB.dr.cell hc)) ?_
  refine ws_q (some 11) (.int .i64 ((k + 1 : Nat) : Int)) (by kernel_rfl) ?_
  refine ws_do (some 12) (.int .i64 (k : Int)) (by kernel_rfl) (by kernel_rfl) (rb_subI (k := (k + 1 : Int)) (l := 1) rfl (by kernel_rfl) (by kernel_rfl) (by omega) (by omega) (by omega)) ?_
  refine ws_do (some 13) (.pointer (some ⟨gf, k * 5, none⟩)) (by kernel_rfl) (by kernel_rfl) (run_ix0 elFR gf (k + 1) cap k rfl (by kernel_rfl) (by kernel_rfl) (by omega)) ?_
  refine ws_q (some 2) (.pointer (some ⟨gf, k * 5, none⟩)) (by kernel_rfl) ?_
  refine ws_all ?_
  refine la_code ?_
  refine ca_ret ?_
  refine la_ret1 2 (.pointer (some ⟨gf, k * 5, none⟩)) rfl (by kernel_rfl) ?_
  exact ⟨rfl, HB.dr⟩
theorem ev_cells6 (k f a v i n : Int) : ∀ u ∈ [Value.int .i64 k, .int .i64 f, .int .i64 a, .int .i64 v, .int .i64 i, .int .i64 n], u.oneCell' = true := fun u hu => by
  simp at hu
  rcases hu with rfl | rfl | rfl | rfl | rfl | rfl <;> rfl
set_option maxRecDepth 20000 in
theorem mtell_any {w0 w : World} {ps : List PF} {fuel : Int} {inp : List Int} {q : Nat} {m : Mc} {vp vin vfr vout : Value} {taken : Nat} {f : Fr} {fs : List Fr} {x : FrX} {xs : List FrX} (k a v i n : Int) (h : MacD w0 ps fuel inp q w m vp vin vfr vout taken (x :: xs)) (hf : m.frames = f :: fs) (h5 : fs.length ≤ 5) (hl : m.out.length ≤ 1000000) :
    Calls Try.prog 120 #[.pointer (some ⟨q, 0, none⟩), .int .i64 k, .int .i64 a, .int .i64 v, .int .i64 i, .int .i64 n] w fun r w' => r = .returned (.tuple #[]) ∧ (∃ vout', MacD w0 ps fuel inp q w' (m.tell k a v i n) vp vin vfr vout' taken (x :: xs)) ∧ Kept [EVT, MCT] w0.heap.size w.heap.size w w' := by
  have hF := h.frs
  rw [hf] at hF
  obtain ⟨gf, cap, rfl, -, htop, HFB⟩ := hF.top
  have hnum : m.num = f.num := by unfold Mc.num; rw [hf]
  have c6 := h.blk.cell (i := 6) (v := .slice (some ⟨gf, 0, none⟩) (fs.length + 1) cap) rfl
  have c7 := h.blk.cell (i := 7) (v := vout) rfl
  have t0 := htop 0 _ rfl
  rw [Nat.add_zero] at t0
  have HB := Bel.rfl_ w
  refine af_enter (c := _) (args := [.pointer (some ⟨q, 0, none⟩), .int .i64 k, .int .i64 a, .int .i64 v, .int .i64 i, .int .i64 n]) Try.func120 rfl Try.ntmps120 (by kernel_rfl) ?_
  refine ca_held (fun W => W.cell? ⟨gf, fs.length * 5, none⟩ = some (.int .i64 f.num)) (by kernel_rfl) (HB.dr.cell t0) pan_body ?_
  refine ra_take 0 (some 12) (.pointer (some ⟨q, 0, none⟩)) rfl (by kernel_rfl) (fun W hW => by kernel_rfl) ?_
  refine ra_take 1 (some 13) (.pointer (some ⟨q, 0, none⟩)) rfl (by kernel_rfl) (fun W hW => by kernel_rfl) ?_
  refine ra_take 2 (some 14) (.pointer (some ⟨q, 0, none⟩)) rfl (by kernel_rfl) (fun W hW => by kernel_rfl) ?_
  refine ra_take 3 (some 15) (.pointer (some ⟨q, 7, none⟩)) rfl (by kernel_rfl) (fun W hW => by kernel_rfl) ?_
  refine ra_take 5 (some 17) (.int .i64 k) rfl (by kernel_rfl) (fun W hW => by kernel_rfl) ?_
  refine ra_take 6 (some 18) (.pointer (some ⟨q, 0, none⟩)) rfl (by kernel_rfl) (fun W hW => by kernel_rfl) ?_
  refine ra_take 11 (some 23) (.int .i64 a) rfl (by kernel_rfl) (fun W hW => by kernel_rfl) ?_
  refine ra_take 12 (some 24) (.int .i64 v) rfl (by kernel_rfl) (fun W hW => by kernel_rfl) ?_
  refine ra_take 13 (some 25) (.int .i64 i) rfl (by kernel_rfl) (fun W hW => by kernel_rfl) ?_
  refine ra_take 14 (some 26) (.int .i64 n) rfl (by kernel_rfl) (fun W hW => by kernel_rfl) ?_
  refine ra_two 4 7 (by kernel_rfl) ?_ ?_
  · skip
    refine rs_to (some 16) (vout) _ rfl (by kernel_rfl) (rl_evs rfl (by kernel_rfl) (Bel.cell HB.dr c7)) (HB.dr.cell t0) ?_
    refine ra_call 7 (some 19) rfl (by kernel_rfl) 117 #[.pointer (some ⟨q, 0, none⟩)] (by kernel_rfl) (mtop_any q gf fs.length cap _ (HB.dr.cell c6) (by omega)) ?_
    rintro r WC ⟨rfl, hb⟩
    have HC := HB.dr.tr hb
    clear hb
    refine ⟨_, rfl, HC.cell t0, ?_⟩
    refine ra_take 8 (some 20) (.pointer (some ⟨gf, fs.length * 5, none⟩)) rfl (by kernel_rfl) (fun W hW => by kernel_rfl) ?_
    refine ra_take 9 (some 21) (.pointer (some ⟨gf, fs.length * 5, none⟩)) rfl (by kernel_rfl) (fun W hW => by kernel_rfl) ?_
    refine ra_take 10 (some 22) (.int .i64 f.num) rfl (by kernel_rfl) (fun W hW => rl_int rfl (by kernel_rfl) hW) ?_
    refine ra_take 15 (some 27) (.agg #[.int .i64 k, .int .i64 f.num, .int .i64 a, .int .i64 v, .int .i64 i, .int .i64 n]) rfl (by kernel_rfl) (fun W hW => by kernel_rfl) ?_
    have HW := HC
    refine ra_one 16 (some 28) (.slice (some ⟨WC.heap.size, 0, none⟩) 1 1) (WC.alloc (.cells #[.int .i64 k, .int .i64 f.num, .int .i64 a, .int .i64 v, .int .i64 i, .int .i64 n] EVT)) rfl (by kernel_rfl) (by kernel_rfl) ((HC.al _).cell t0) ?_
    refine ra_app 17 (some 29) WC (.tmp 16) (.tmp 28) 27 rfl (by kernel_rfl) rfl rfl w0.heap.size elEV vout m.out.length _ (by kernel_rfl) (by kernel_rfl) (HC.own h.out) [.int .i64 k, .int .i64 f.num, .int .i64 a, .int .i64 v, .int .i64 i, .int .i64 n] (by kernel_rfl) (by kernel_rfl) rfl (ev_cells6 _ _ _ _ _ _) (by simp only [maxLen]; omega) (by omega) (Nat.le_trans h.low.size HC.size) ?_
    intro g6 cap6 w6 ho6 hg6 _
    have HD := h.told HC hg6 ⟨k, f.num, a, v, i, n⟩ ho6
    have HKp := h.told_kept HC (vout' := .slice (some ⟨g6, 0, none⟩) (m.out.length + 1) cap6) hg6
    have hbk := (h.keep HC).blk.grown hg6 (Blk.ne_own (h.keep HC).blk (h.keep HC).out (by decide))
    obtain ⟨cur, hgb⟩ := HFB
    have hgk := (hgb.keep HC).grown hg6 (Blk.ne_own (hgb.keep HC) (h.keep HC).out (by decide))
    have t6 : w6.cell? ⟨gf, fs.length * 5, none⟩ = some (.int .i64 f.num) := by
      have h1 := cell_of_row w6 gf (fs.length * 5) cur _ _ hgk
      have h2 := cell_of_row w gf (fs.length * 5) cur _ _ hgb
      rw [h1, ← h2, t0]
    have t7 : (w6.setCell ⟨q, 7, none⟩ (.slice (some ⟨g6, 0, none⟩) (m.out.length + 1) cap6)).cell? ⟨gf, fs.length * 5, none⟩ = some (.int .i64 f.num) := by
      have h1 := cell_of_row (w6.setCell ⟨q, 7, none⟩ (.slice (some ⟨g6, 0, none⟩) (m.out.length + 1) cap6)) gf (fs.length * 5) cur _ _ (hgk.aside hbk (by decide) 7 (.slice (some ⟨g6, 0, none⟩) (m.out.length + 1) cap6))
      have h2 := cell_of_row w6 gf (fs.length * 5) cur _ _ hgk
      rw [h1, ← h2, t6]
    refine ⟨t6, ?_⟩
    refine ra_take 18 (some 30) (.pointer (some ⟨q, 0, none⟩)) rfl (by kernel_rfl) (fun W hW => by kernel_rfl) ?_
    refine ra_take 19 (some 31) (.pointer (some ⟨q, 7, none⟩)) rfl (by kernel_rfl) (fun W hW => by kernel_rfl) ?_
    refine ra_sto 20 none (w6.setCell ⟨q, 7, none⟩ (.slice (some ⟨g6, 0, none⟩) (m.out.length + 1) cap6)) rfl (by kernel_rfl) (rs_evs rfl (by kernel_rfl) (by kernel_rfl) (hbk.cell (i := 7) rfl) (hbk.frozen 7)) t7 ?_
    refine ra_done (by kernel_rfl) ?_
    refine la_end0 rfl ?_
    refine ⟨rfl, ⟨.slice (some ⟨g6, 0, none⟩) (m.out.length + 1) cap6, ?_⟩, HKp⟩
    unfold Mc.tell
    rw [hnum]
    exact HD
  · skip
    refine rs_call (some 19) rfl (by kernel_rfl) 117 #[.pointer (some ⟨q, 0, none⟩)] (by kernel_rfl) (mtop_any q gf fs.length cap _ (HB.dr.cell c6) (by omega)) ?_
    rintro r WC ⟨rfl, hb⟩
    have HC := HB.dr.tr hb
    clear hb
    refine ⟨_, rfl, HC.cell t0, ?_⟩
    refine ra_take 8 (some 20) (.pointer (some ⟨gf, fs.length * 5, none⟩)) rfl (by kernel_rfl) (fun W hW => by kernel_rfl) ?_
    refine ra_take 9 (some 21) (.pointer (some ⟨gf, fs.length * 5, none⟩)) rfl (by kernel_rfl) (fun W hW => by kernel_rfl) ?_
    refine ra_take 10 (some 22) (.int .i64 f.num) rfl (by kernel_rfl) (fun W hW => rl_int rfl (by kernel_rfl) hW) ?_
    refine ra_take 15 (some 27) (.agg #[.int .i64 k, .int .i64 f.num, .int .i64 a, .int .i64 v, .int .i64 i, .int .i64 n]) rfl (by kernel_rfl) (fun W hW => by kernel_rfl) ?_
    refine ra_two 4 16 (by kernel_rfl) ?_ ?_
    · skip
      refine rs_to (some 16) (vout) _ rfl (by kernel_rfl) (rl_evs rfl (by kernel_rfl) (Bel.cell HC c7)) (HC.cell t0) ?_
      have HW := HC
      refine ra_one 16 (some 28) (.slice (some ⟨WC.heap.size, 0, none⟩) 1 1) (WC.alloc (.cells #[.int .i64 k, .int .i64 f.num, .int .i64 a, .int .i64 v, .int .i64 i, .int .i64 n] EVT)) rfl (by kernel_rfl) (by kernel_rfl) ((HC.al _).cell t0) ?_
      refine ra_app 17 (some 29) WC (.tmp 16) (.tmp 28) 27 rfl (by kernel_rfl) rfl rfl w0.heap.size elEV vout m.out.length _ (by kernel_rfl) (by kernel_rfl) (HC.own h.out) [.int .i64 k, .int .i64 f.num, .int .i64 a, .int .i64 v, .int .i64 i, .int .i64 n] (by kernel_rfl) (by kernel_rfl) rfl (ev_cells6 _ _ _ _ _ _) (by simp only [maxLen]; omega) (by omega) (Nat.le_trans h.low.size HC.size) ?_
      intro g6 cap6 w6 ho6 hg6 _
      have HD := h.told HC hg6 ⟨k, f.num, a, v, i, n⟩ ho6
      have HKp := h.told_kept HC (vout' := .slice (some ⟨g6, 0, none⟩) (m.out.length + 1) cap6) hg6
      have hbk := (h.keep HC).blk.grown hg6 (Blk.ne_own (h.keep HC).blk (h.keep HC).out (by decide))
      obtain ⟨cur, hgb⟩ := HFB
      have hgk := (hgb.keep HC).grown hg6 (Blk.ne_own (hgb.keep HC) (h.keep HC).out (by decide))
      have t6 : w6.cell? ⟨gf, fs.length * 5, none⟩ = some (.int .i64 f.num) := by
        have h1 := cell_of_row w6 gf (fs.length * 5) cur _ _ hgk
        have h2 := cell_of_row w gf (fs.length * 5) cur _ _ hgb
        rw [h1, ← h2, t0]
      have t7 : (w6.setCell ⟨q, 7, none⟩ (.slice (some ⟨g6, 0, none⟩) (m.out.length + 1) cap6)).cell? ⟨gf, fs.length * 5, none⟩ = some (.int .i64 f.num) := by
        have h1 := cell_of_row (w6.setCell ⟨q, 7, none⟩ (.slice (some ⟨g6, 0, none⟩) (m.out.length + 1) cap6)) gf (fs.length * 5) cur _ _ (hgk.aside hbk (by decide) 7 (.slice (some ⟨g6, 0, none⟩) (m.out.length + 1) cap6))
        have h2 := cell_of_row w6 gf (fs.length * 5) cur _ _ hgk
        rw [h1, ← h2, t6]
      refine ⟨t6, ?_⟩
      refine ra_take 18 (some 30) (.pointer (some ⟨q, 0, none⟩)) rfl (by kernel_rfl) (fun W hW => by kernel_rfl) ?_
      refine ra_take 19 (some 31) (.pointer (some ⟨q, 7, none⟩)) rfl (by kernel_rfl) (fun W hW => by kernel_rfl) ?_
      refine ra_sto 20 none (w6.setCell ⟨q, 7, none⟩ (.slice (some ⟨g6, 0, none⟩) (m.out.length + 1) cap6)) rfl (by kernel_rfl) (rs_evs rfl (by kernel_rfl) (by kernel_rfl) (hbk.cell (i := 7) rfl) (hbk.frozen 7)) t7 ?_
      refine ra_done (by kernel_rfl) ?_
      refine la_end0 rfl ?_
      refine ⟨rfl, ⟨.slice (some ⟨g6, 0, none⟩) (m.out.length + 1) cap6, ?_⟩, HKp⟩
      unfold Mc.tell
      rw [hnum]
      exact HD
    · skip
      have HW := HC
      refine rs_to (some 28) (.slice (some ⟨WC.heap.size, 0, none⟩) 1 1) (WC.alloc (.cells #[.int .i64 k, .int .i64 f.num, .int .i64 a, .int .i64 v, .int .i64 i, .int .i64 n] EVT)) rfl (by kernel_rfl) (by kernel_rfl) ((HC.al _).cell t0) ?_
      refine ra_one 4 (some 16) (vout) _ rfl (by kernel_rfl) (rl_evs rfl (by kernel_rfl) (Bel.cell (HC.al (.cells #[.int .i64 k, .int .i64 f.num, .int .i64 a, .int .i64 v, .int .i64 i, .int .i64 n] EVT)) c7)) ((HC.al (.cells #[.int .i64 k, .int .i64 f.num, .int .i64 a, .int .i64 v, .int .i64 i, .int .i64 n] EVT)).cell t0) ?_
      refine ra_app 17 (some 29) WC (.tmp 16) (.tmp 28) 27 rfl (by kernel_rfl) rfl rfl w0.heap.size elEV vout m.out.length _ (by kernel_rfl) (by kernel_rfl) (HC.own h.out) [.int .i64 k, .int .i64 f.num, .int .i64 a, .int .i64 v, .int .i64 i, .int .i64 n] (by kernel_rfl) (by kernel_rfl) rfl (ev_cells6 _ _ _ _ _ _) (by simp only [maxLen]; omega) (by omega) (Nat.le_trans h.low.size HC.size) ?_
      intro g6 cap6 w6 ho6 hg6 _
      have HD := h.told HC hg6 ⟨k, f.num, a, v, i, n⟩ ho6
      have HKp := h.told_kept HC (vout' := .slice (some ⟨g6, 0, none⟩) (m.out.length + 1) cap6) hg6
      have hbk := (h.keep HC).blk.grown hg6 (Blk.ne_own (h.keep HC).blk (h.keep HC).out (by decide))
      obtain ⟨cur, hgb⟩ := HFB
      have hgk := (hgb.keep HC).grown hg6 (Blk.ne_own (hgb.keep HC) (h.keep HC).out (by decide))
      have t6 : w6.cell? ⟨gf, fs.length * 5, none⟩ = some (.int .i64 f.num) := by
        have h1 := cell_of_row w6 gf (fs.length * 5) cur _ _ hgk
        have h2 := cell_of_row w gf (fs.length * 5) cur _ _ hgb
        rw [h1, ← h2, t0]
      have t7 : (w6.setCell ⟨q, 7, none⟩ (.slice (some ⟨g6, 0, none⟩) (m.out.length + 1) cap6)).cell? ⟨gf, fs.length * 5, none⟩ = some (.int .i64 f.num) := by
        have h1 := cell_of_row (w6.setCell ⟨q, 7, none⟩ (.slice (some ⟨g6, 0, none⟩) (m.out.length + 1) cap6)) gf (fs.length * 5) cur _ _ (hgk.aside hbk (by decide) 7 (.slice (some ⟨g6, 0, none⟩) (m.out.length + 1) cap6))
        have h2 := cell_of_row w6 gf (fs.length * 5) cur _ _ hgk
        rw [h1, ← h2, t6]
      refine ⟨t6, ?_⟩
      refine ra_take 18 (some 30) (.pointer (some ⟨q, 0, none⟩)) rfl (by kernel_rfl) (fun W hW => by kernel_rfl) ?_
      refine ra_take 19 (some 31) (.pointer (some ⟨q, 7, none⟩)) rfl (by kernel_rfl) (fun W hW => by kernel_rfl) ?_
      refine ra_sto 20 none (w6.setCell ⟨q, 7, none⟩ (.slice (some ⟨g6, 0, none⟩) (m.out.length + 1) cap6)) rfl (by kernel_rfl) (rs_evs rfl (by kernel_rfl) (by kernel_rfl) (hbk.cell (i := 7) rfl) (hbk.frozen 7)) t7 ?_
      refine ra_done (by kernel_rfl) ?_
      refine la_end0 rfl ?_
      refine ⟨rfl, ⟨.slice (some ⟨g6, 0, none⟩) (m.out.length + 1) cap6, ?_⟩, HKp⟩
      unfold Mc.tell
      rw [hnum]
      exact HD
end Go.Proofs.Ytgkpplbomciehaa
