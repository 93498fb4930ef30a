/- A run tells an event, and ends: walked. Each lemma states its own conditions. -/
import Derived.Test.YtgkpplbomciehaaTmo23
namespace Go.Proofs.Ytgkpplbomciehaa
open Go.RowKit
theorem evC_snoc (out : List Ev) (e : Ev) : evC (out ++ [e]) = evC out ++ e.cells := by unfold evC; simp
/-- what a run told so far has one more event -/
theorem RnM.told {w0 : World} {ps : List PF} {fuel : Int} {fs : FS} {L r : Nat} {w W W2 : World} {inp : List Int} {steps made deep : Int} {out : List Ev} {vp vin vf ve ve' : Value}
    (hb0 : Below w0.heap.size w0 w) (hr0 : w0.heap.size ≤ r) (hrL : r < L) (hB : Blk w r 171 #[vp, vin, .int .i64 fuel, .int .i64 steps, .int .i64 made, .int .i64 deep, vf, ve]) (hps : Sl pfR w0 vp ps) (hin : Sl intR w0 vin inp)
    (hfs : w.ownsRow w0.heap.size INT 1 vf fs.l.length (fs.l.map (Value.int .i64))) (hvf : (∀ k, vf.ownBlock = some k → k < L) ∧ vf = fs.v) (hev : w.ownsRow w0.heap.size EVT 6 ve out.length (evC out)) (hW : Bel w W) (hg : W.grownBy W2 ve.ownBlock) (e : Ev)
    (ho : W2.ownsRow w0.heap.size EVT 6 ve' (out.length + 1) (evC out ++ e.cells)) :
    RnM w0 ps fuel fs L r (W2.setCell ⟨r, 7, none⟩ ve') inp steps made deep (out ++ [e]) ∧ Kept rts w0.heap.size w.heap.size w (W2.setCell ⟨r, 7, none⟩ ve') := by
  have hBW := hB.keep hW
  have hevW := hW.own hev
  have hB2 := hBW.grown hg (Blk.ne_own hBW hevW (by decide))
  have h2 : Below w0.heap.size w0 W2 := Below.grown (Bel.trB hb0 hW hb0.size) hg (Nat.le_trans hb0.size hW.size) (fun k hk => (hevW.lt k hk).1)
  have hfs2 := own_far (hW.own hfs) hevW (by decide) hg
  refine ⟨⟨h2.setCell (p := ⟨r, 7, none⟩) hr0 _, hr0, hrL, vp, vin, vf, ve', hB2.set_ 7 _, hps, hin, own_set hfs2 hB2 (by decide) 7 _, hvf, ?_⟩, ?_⟩
  · rw [List.length_append, evC_snoc]
    exact own_set ho hB2 (by decide) 7 _
  · exact ((Kept.bel hW hb0.size).tr (Kept.mono (Kept.grown hevW (by decide) hg (Nat.le_trans hb0.size hW.size)) (Nat.le_refl _))).tr (Kept.set_ty hB2 hr0 (by decide) 7 _)
set_option maxRecDepth 20000 in
set_option maxHeartbeats 4000000 in
theorem tell_any (w0 : World) (ps : List PF) (fuel : Int) (fs : FS) (L r : Nat) (inp : List Int) (steps made deep : Int) (out : List Ev) (k f a v i n : Int) (w : World) (hR : RnM w0 ps fuel fs L r w inp steps made deep out) (hl : out.length ≤ 100000) :
    Calls Try.prog 148 #[.pointer (some ⟨r, 0, none⟩), .agg #[.int .i64 k, .int .i64 f, .int .i64 a, .int .i64 v, .int .i64 i, .int .i64 n]] w fun x w' => x = .returned (.tuple #[]) ∧ RnM w0 ps fuel fs L r w' inp steps made deep (out ++ [⟨k, f, a, v, i, n⟩]) ∧ Kept rts w0.heap.size w.heap.size w w' := by
  obtain ⟨hb0, hr0, hrL, vp, vin, vf, ve, hB, hps, hin, hfs, hvf, hev⟩ := hR
  have HT := Lib.hid (fun (W W2 : World) (ve' : Value) => @RnM.told w0 ps fuel fs L r w W W2 inp steps made deep out vp vin vf ve ve' hb0 hr0 hrL hB hps hin hfs hvf hev)
  have hb1 : Bel w (w.alloc (.cells #[.int .i64 k, .int .i64 f, .int .i64 a, .int .i64 v, .int .i64 i, .int .i64 n] EVT)) := (Bel.rfl_ w).al _
  have HB1 := Lib.hid (hB.keep hb1)
  have HO1 := Lib.hid (hb1.own hev)
  have HQ1 := Lib.hid (Blk.new w EVT #[.int .i64 k, .int .i64 f, .int .i64 a, .int .i64 v, .int .i64 i, .int .i64 n])
  have HBB := Lib.hid hb1
  have HS := Lib.hid (Nat.le_trans hb0.size hb1.size)
  have HT1 : Hid (∀ u ∈ [Value.int .i64 k, .int .i64 f, .int .i64 a, .int .i64 v, .int .i64 i, .int .i64 n], u.oneCell' = true) := Lib.hid (fun u hu => by simp at hu; rcases hu with rfl | rfl | rfl | rfl | rfl | rfl <;> rfl)
  have HT3 : Hid (out.length + 1 ≤ maxLen) := Lib.hid (by simp only [maxLen]; omega)
  have HT4 : Hid ((out.length + 1) * 48 ≤ 140737488355328) := Lib.hid (by omega)
  clear hb0 hr0 hrL hB hps hin hfs hvf hev hb1 hl
  go_enter Try.func148, Try.ntmps148
  go_upto_region 1 with fail
  generalize w.alloc (.cells #[.int .i64 k, .int .i64 f, .int .i64 a, .int .i64 v, .int .i64 i, .int .i64 n] EVT) = W1 at *
  have r7 := HB1.out.cell (i := 7) (v := ve) rfl
  have q0 := HQ1.out.cell (i := 0) (v := .int .i64 k) rfl
  have q1 := HQ1.out.cell (i := 1) (v := .int .i64 f) rfl
  have q2 := HQ1.out.cell (i := 2) (v := .int .i64 a) rfl
  have q3 := HQ1.out.cell (i := 3) (v := .int .i64 v) rfl
  have q4 := HQ1.out.cell (i := 4) (v := .int .i64 i) rfl
  have q5 := HQ1.out.cell (i := 5) (v := .int .i64 n) rfl
  have r7' := (HB1.out.keep ((Bel.rfl_ W1).al (.cells #[.int .i64 k, .int .i64 f, .int .i64 a, .int .i64 v, .int .i64 i, .int .i64 n] EVT))).cell (i := 7) (v := ve) rfl
  have HB1d := Lib.hid (HB1.out.keep ((Bel.rfl_ W1).dr))
  have HO1d := Lib.hid (((Bel.rfl_ W1).dr).own HO1.out)
  generalize hQ : w.heap.size = Q at *
  have HQE := Lib.hid hQ
  clear hQ
  go_region_law (first
    | (refine @step_app _ W1.drew _ _ _ _ _ _ ?_ (.tmp 8) (.tmp 10) 27 ?_ _ _ _ _ elEV ve out.length _ ?_ HO1d.out [.int .i64 k, .int .i64 f, .int .i64 a, .int .i64 v, .int .i64 i, .int .i64 n] _ rfl ?_ ?_ HT1.out HT3.out HT4.out HS.out ?_ _ ?_; exact rfl; exact rfl; exact rfl; exact rfl; exact rfl; rotate_left; exact rfl; intro gg cap w4 hown4 hg4 _; have HO4 := Lib.hid hown4; have HG4 := Lib.hid hg4; have hs4 := HB1d.out.grown hg4 (HB1d.out.ne_own HO1d.out (by decide)); have x2 := hs4.cell (i := 7) (v := ve) rfl; have xf := hs4.frozen 7; clear hs4 hown4 hg4))
  all_goals go_wp2
  all_goals
    have hx := HT.out W1.drew w4 (.slice (some ⟨gg, 0, none⟩) (out.length + 1) cap) HBB.out.dr HG4.out ⟨k, f, a, v, i, n⟩ HO4.out
    exact bodyPost_end (v := .tuple #[]) (results_none rfl _ _ _) rfl ⟨rfl, hx.1, HQE.out ▸ hx.2⟩
end Go.Proofs.Ytgkpplbomciehaa
