/- A sector written, the document's: walked. Each lemma states its own conditions. -/
import Derived.Test.YtkojeofegoljpaaDskF
namespace Go.Proofs.Ytkojeofegoljpaa
open Go.RowKit

set_option maxRecDepth 20000 in
set_option maxHeartbeats 1000000 in
theorem writeOf_any (d : Dk) (val : Value) (n : Int) (s : ByteArray) (w : World) (h : DkV w d val) (hw : d.written.length ≤ 600) :
    Calls Try.prog 16 #[val, .int .i64 n, .string s] w fun r w' => ∃ val', r = .returned val' ∧ DkV w' (d.put n s) val' ∧ Bel w w' := by
  have HDP : Hid (Dk.mk d.kept (d.written ++ [⟨n, s⟩]) = d.put n s) := Lib.hid rfl
  generalize d.put n s = P at *
  obtain ⟨A1, c1, A2, c2, rfl, h1, h2⟩ := h
  have H1 := Lib.hid h1
  have h2' := h2
  obtain ⟨_, _, e2, _, hm2, hA2⟩ := h2'
  injection e2 with e2 _ e3
  subst e2
  subst e3
  clear h1 h2
  generalize d.kept = ks at *
  generalize d.written = ws at *
  have hr : Try.f16.results = #[.cell 6 25] := rfl
  go_enter Try.func16, Try.ntmps16
  go_wp2
  have hW0 : Bel w ((w.alloc (.cells #[.slice A1 ks.length c1, .slice A2 ws.length c2] 25)).alloc (.cells #[.slice none 0 0, .slice none 0 0] 25)) := ((Bel.rfl_ w).al _).al _
  have hQ := (Blk.new w 25 #[.slice A1 ks.length c1, .slice A2 ws.length c2]).keep ((Bel.rfl_ _).al (.cells #[.slice none 0 0, .slice none 0 0] 25))
  have hR := Blk.new (w.alloc (.cells #[.slice A1 ks.length c1, .slice A2 ws.length c2] 25)) 25 #[.slice none 0 0, .slice none 0 0]
  rw [World.size_alloc] at hR
  have q0 : ((w.alloc (.cells #[.slice A1 ks.length c1, .slice A2 ws.length c2] 25)).alloc (.cells #[.slice none 0 0, .slice none 0 0] 25)).cell? ⟨w.heap.size, 0, none⟩ = some (.slice A1 ks.length c1) := hQ.cell (i := 0) rfl
  have q1 : ((w.alloc (.cells #[.slice A1 ks.length c1, .slice A2 ws.length c2] 25)).alloc (.cells #[.slice none 0 0, .slice none 0 0] 25)).cell? ⟨w.heap.size, 1, none⟩ = some (.slice A2 ws.length c2) := hQ.cell (i := 1) rfl
  have HW0 := Lib.hid hW0
  have HR := Lib.hid hR
  have HC2 : Hid (∀ W, Bel ((w.alloc (.cells #[.slice A1 ks.length c1, .slice A2 ws.length c2] 25)).alloc (.cells #[.slice none 0 0, .slice none 0 0] 25)) W → (0 < ws.length → ∃ b off, A2 = some ⟨b, off, none⟩ ∧ CellsAt W b off (wrCells ws))) := Lib.hid (fun W hb hp => by
    obtain ⟨b, o, h3, h4⟩ := hA2 hp
    exact ⟨b, o, h3, (wrs_cells h4).keep (hW0.tr hb)⟩)
  have HSZ : Hid (((w.alloc (.cells #[.slice A1 ks.length c1, .slice A2 ws.length c2] 25)).alloc (.cells #[.slice none 0 0, .slice none 0 0] 25)).heap.size = w.heap.size + 2) := Lib.hid (by simp)
  have HA2 : Hid (A2 = none → c2 = 0) := Lib.hid hm2.2
  clear hW0 hQ hR hA2 hm2
  generalize hW : (w.alloc (.cells #[.slice A1 ks.length c1, .slice A2 ws.length c2] 25)).alloc (.cells #[.slice none 0 0, .slice none 0 0] 25) = W0 at *
  clear hW
  have hbW := Lib.hid (Bel.rfl_ W0)
  have HWL : Hid ((wrCells ws).length = ws.length * 2) := Lib.hid (wrCells_length ws)
  have HO1 : Hid (∀ u ∈ wrCells ws, u.oneCell' = true) := Lib.hid (wrs_one ws)
  have HT1 : Hid (∀ u ∈ [Value.int .i64 n, .string s], u.oneCell' = true) := Lib.hid (by simp [Value.oneCell'])
  have HT3 : Hid (ws.length + 1 ≤ maxLen) := Lib.hid (by simp only [maxLen]; omega)
  have HT4 : Hid ((ws.length + 1) * 24 ≤ 140737488355328) := Lib.hid (by omega)
  have HT5 : Hid (0 + ws.length ≤ maxLen) := Lib.hid (by simp only [maxLen]; omega)
  have HT6 : Hid ((0 + ws.length) * 24 ≤ 140737488355328) := Lib.hid (by omega)
  have HBZ : Hid (∀ W, Bel W0 W → W0.heap.size ≤ W.heap.size) := Lib.hid (fun W h => h.size)
  have HNE2 : Hid (some (W0.heap.size + 1) ≠ Value.ownBlock (.slice (some ⟨W0.heap.size, 0, none⟩) 0 0)) := Lib.hid (by intro hh; simp only [Value.ownBlock, Option.some.injEq] at hh; omega)
  have HNE3 : Hid (some W0.drew.heap.size ≠ Value.ownBlock (.slice (some ⟨W0.heap.size + 1, 0, none⟩) 0 0)) := Lib.hid (by intro hh; simp only [Value.ownBlock, Option.some.injEq] at hh; change W0.heap.size = W0.heap.size + 1 at hh; omega)
  have HBK2 : Hid (Blk ((W0.drew.alloc (.cells #[] 71)).alloc (.cells #[.int .i64 n, .string s] 71)) (W0.heap.size + 1) 71 #[.int .i64 n, .string s]) := Lib.hid (by have := Blk.new (W0.drew.alloc (.cells #[] 71)) 71 #[.int .i64 n, .string s]; rw [World.size_alloc] at this; exact this)
  have HM1 := Lib.hid (World.ownsRow_made (base := W0.heap.size) (e := 71) (size := 2) W0.drew #[] 0 (Nat.le_refl _) (Nat.zero_le _) rfl)
  have HM2 := Lib.hid (HM1.out.alloc (.cells #[.int .i64 n, .string s] 71))
  have HM3 : Hid (((W0.drew.alloc (.cells #[.int .i64 n, .string s] 71)).alloc (.cells #[] 71)).ownsRow W0.heap.size 71 2 (.slice (some ⟨W0.heap.size + 1, 0, none⟩) 0 0) 0 []) := Lib.hid (by have := World.ownsRow_made (base := W0.heap.size) (e := 71) (size := 2) (W0.drew.alloc (.cells #[.int .i64 n, .string s] 71)) #[] 0 (by simp) (Nat.zero_le _) rfl; rw [World.size_alloc] at this; exact this)
  go_region_held3 (fun w' => w'.cell? ⟨w.heap.size, 0, none⟩ = some (.slice A1 ks.length c1) ∧ w'.cell? ⟨w.heap.size, 1, none⟩ = some (.slice A2 ws.length c2))
    (first | (refine keep2 (w := W0) ?_ ⟨q0, q1⟩; (repeat (first | exact Bel.rfl_ _ | exact hbW.out | apply Bel.dr | apply Bel.al)); done) | (refine keepB (B := w.heap.size + 1) (w := W0) ?_ (Nat.lt_succ_self _) ⟨q0, q1⟩; (repeat (first | exact hB4.out | (refine Below.setCell ?_ (by simp) _))); done))
    (first
      | (refine @step_appAll _ (W0.drew.alloc (.cells #[] 71)) _ _ _ _ _ _ ?_ (.tmp 9) (.tmp 11) 23 ?_ W0.heap.size _ _ _ elWr (.slice (some ⟨W0.heap.size, 0, none⟩) 0 0) 0 [] ?_ HM1.out A2 ws.length c2 (wrCells ws) ?_ HWL.out HA2.out (HC2.out _ ?_) HO1.out HT5.out HT6.out (HBZ.out _ ?_) ?_; exact rfl; exact rfl; exact rfl; exact rfl; (repeat (first | exact Bel.rfl_ _ | apply Bel.dr | apply Bel.al)); (repeat (first | exact Bel.rfl_ _ | apply Bel.dr | apply Bel.al)); intro v2 w2 hown2 hg2 _;  have hbd : Bel W0 (W0.drew.alloc (.cells #[] 71)) := (by repeat (first | exact Bel.rfl_ _ | apply Bel.dr | apply Bel.al)); have hbW := Lib.hid (Below.ofGrown (w := (W0.drew.alloc (.cells #[] 71))) hbd HM1.out hg2 (Nat.le_refl _) hbd.size); rw [Nat.zero_add, List.nil_append] at hown2; have HO2 := Lib.hid hown2; have HQ5 := Lib.hid hbW.out.size; clear hown2 hg2)
      | (refine @step_appAll _ ((W0.drew.alloc (.cells #[] 71)).alloc (.cells #[.int .i64 n, .string s] 71)) _ _ _ _ _ _ ?_ (.tmp 9) (.tmp 11) 23 ?_ W0.heap.size _ _ _ elWr (.slice (some ⟨W0.heap.size, 0, none⟩) 0 0) 0 [] ?_ HM2.out A2 ws.length c2 (wrCells ws) ?_ HWL.out HA2.out (HC2.out _ ?_) HO1.out HT5.out HT6.out (HBZ.out _ ?_) ?_; exact rfl; exact rfl; exact rfl; exact rfl; (repeat (first | exact Bel.rfl_ _ | apply Bel.dr | apply Bel.al)); (repeat (first | exact Bel.rfl_ _ | apply Bel.dr | apply Bel.al)); intro v2 w2 hown2 hg2 _; have HZ := Lib.hid (HBK2.out.grown hg2 HNE2.out); have hbd : Bel W0 ((W0.drew.alloc (.cells #[] 71)).alloc (.cells #[.int .i64 n, .string s] 71)) := (by repeat (first | exact Bel.rfl_ _ | apply Bel.dr | apply Bel.al)); have hbW := Lib.hid (Below.ofGrown (w := ((W0.drew.alloc (.cells #[] 71)).alloc (.cells #[.int .i64 n, .string s] 71))) hbd HM2.out hg2 (Nat.le_refl _) hbd.size); rw [Nat.zero_add, List.nil_append] at hown2; have HO2 := Lib.hid hown2; have HQ5 := Lib.hid hbW.out.size; clear hown2 hg2)
      | (refine @step_appAll _ ((W0.drew.alloc (.cells #[.int .i64 n, .string s] 71)).alloc (.cells #[] 71)) _ _ _ _ _ _ ?_ (.tmp 9) (.tmp 11) 23 ?_ W0.heap.size _ _ _ elWr (.slice (some ⟨W0.heap.size + 1, 0, none⟩) 0 0) 0 [] ?_ HM3.out A2 ws.length c2 (wrCells ws) ?_ HWL.out HA2.out (HC2.out _ ?_) HO1.out HT5.out HT6.out (HBZ.out _ ?_) ?_; exact rfl; exact rfl; exact rfl; exact rfl; (repeat (first | exact Bel.rfl_ _ | apply Bel.dr | apply Bel.al)); (repeat (first | exact Bel.rfl_ _ | apply Bel.dr | apply Bel.al)); intro v2 w2 hown2 hg2 _; have HZ := Lib.hid (((Blk.new W0.drew 71 #[.int .i64 n, .string s]).keep ((Bel.rfl_ _).al (.cells #[] 71))).grown hg2 HNE3.out); have hbd : Bel W0 ((W0.drew.alloc (.cells #[.int .i64 n, .string s] 71)).alloc (.cells #[] 71)) := (by repeat (first | exact Bel.rfl_ _ | apply Bel.dr | apply Bel.al)); have hbW := Lib.hid (Below.ofGrown (w := ((W0.drew.alloc (.cells #[.int .i64 n, .string s] 71)).alloc (.cells #[] 71))) hbd HM3.out hg2 (Nat.le_refl _) hbd.size); rw [Nat.zero_add, List.nil_append] at hown2; have HO2 := Lib.hid hown2; have HQ5 := Lib.hid hbW.out.size; clear hown2 hg2)
      | (refine @step_app _ w2 _ _ _ _ _ _ ?_ (.tmp 12) (.tmp 16) 23 ?_ _ _ _ _ elWr v2 ws.length _ ?_ HO2.out [.int .i64 n, .string s] w2.heap.size rfl ?_ ?_ HT1.out HT3.out HT4.out HQ5.out ?_ _ ?_; exact rfl; exact rfl; exact rfl; exact rfl; exact rfl; rotate_left; exact rfl; intro g cap w4 hown4 hg4 _; have HO4 := Lib.hid hown4; have HG4 := Lib.hid hg4; have hs4 := (HR.out.keep hbW.out).grown hg4 ((HR.out.keep hbW.out).ne_own HO2.out (by decide)); have d0 := hs4.cell (i := 0) rfl; have d1 := hs4.cell (i := 1) rfl; have e0 := hs4.frozen 0; have e1 := hs4.frozen 1; have HS4 := Lib.hid hs4; have hB4 := Lib.hid (Below.ofGrown (Below.mono hbW.out (show w.heap.size + 1 ≤ W0.heap.size by rw [HSZ.out]; omega)) HO2.out hg4 (show w.heap.size + 1 ≤ W0.heap.size by rw [HSZ.out]; omega) (Nat.le_trans (show w.heap.size + 1 ≤ W0.heap.size by rw [HSZ.out]; omega) HQ5.out)); clear hown4 hg4 hs4)
      | (refine @step_appAll _ w2 _ _ _ _ _ _ ?_ (.tmp 12) (.tmp 16) 23 ?_ _ _ _ _ elWr v2 ws.length _ ?_ HO2.out _ 1 1 [.int .i64 n, .string s] ?_ rfl ?_ HZ.out.cells2 HT1.out HT3.out HT4.out HQ5.out ?_; exact rfl; exact rfl; exact rfl; exact rfl; (intro hh; cases hh); intro v4 w4 hown4 hg4 _; obtain ⟨g, cap, rfl⟩ := ownsRow_succ hown4; have HO4 := Lib.hid hown4; have HG4 := Lib.hid hg4; have hs4 := (HR.out.keep hbW.out).grown hg4 ((HR.out.keep hbW.out).ne_own HO2.out (by decide)); have d0 := hs4.cell (i := 0) rfl; have d1 := hs4.cell (i := 1) rfl; have e0 := hs4.frozen 0; have e1 := hs4.frozen 1; have HS4 := Lib.hid hs4; have hB4 := Lib.hid (Below.ofGrown (Below.mono hbW.out (show w.heap.size + 1 ≤ W0.heap.size by rw [HSZ.out]; omega)) HO2.out hg4 (show w.heap.size + 1 ≤ W0.heap.size by rw [HSZ.out]; omega) (Nat.le_trans (show w.heap.size + 1 ≤ W0.heap.size by rw [HSZ.out]; omega) HQ5.out)); clear hown4 hg4 hs4))
  all_goals go_wp2
  all_goals
    have hs5 := (HS4.out.set_ 0 (.slice A1 ks.length c1)).set_ 1 (.slice (some ⟨g, 0, none⟩) (ws.length + 1) cap)
    have z0 := hs5.cell (i := 0) rfl
    have z1 := hs5.cell (i := 1) rfl
    have ho2 := own_aside (own_aside HO4.out HS4.out (by decide) 0 (.slice A1 ks.length c1)) (HS4.out.set_ 0 (.slice A1 ks.length c1)) (by decide) 1 (.slice (some ⟨g, 0, none⟩) (ws.length + 1) cap)
    have hbl := ((Below.trans HW0.out (Below.mono hB4.out (show w.heap.size ≤ w.heap.size + 1 by omega))).setCell (p := ⟨w.heap.size + 1, 0, none⟩) (by dsimp only; omega) (.slice A1 ks.length c1)).setCell (p := ⟨w.heap.size + 1, 1, none⟩) (by dsimp only; omega) (.slice (some ⟨g, 0, none⟩) (ws.length + 1) cap)
    have hfin : DkV ((w4.setCell ⟨w.heap.size + 1, 0, none⟩ (.slice A1 ks.length c1)).setCell ⟨w.heap.size + 1, 1, none⟩ (.slice (some ⟨g, 0, none⟩) (ws.length + 1) cap)) ⟨ks, ws ++ [⟨n, s⟩]⟩ (.agg #[.slice A1 ks.length c1, .slice (some ⟨g, 0, none⟩) (ws.length + 1) cap]) := by
      refine ⟨A1, c1, some ⟨g, 0, none⟩, cap, by simp, H1.out.keep hbl, ?_⟩
      have := ho2
      rw [show wrCells ws ++ [Value.int .i64 n, .string s] = wrCells (ws ++ [⟨n, s⟩]) from (wrCells_snoc ws ⟨n, s⟩).symm] at this
      have h3 := Sl.own_wrs this (by simp)
      simpa using h3
    refine bodyPost_ret (v := .agg #[.slice A1 ks.length c1, .slice (some ⟨g, 0, none⟩) (ws.length + 1) cap]) (by simp [results, z0, z1, go_sem]) rfl ⟨_, rfl, by rw [← HDP.out]; exact hfin, hbl⟩

end Go.Proofs.Ytkojeofegoljpaa
