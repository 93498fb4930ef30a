/- Times walked. Each lemma states its own conditions. -/
import Derived.Test.YtegknpffiaeohaaWhenA
import Derived.RangeFuncNested
import Derived.RangeFuncBound
import Derived.RangeFuncCalls
import Derived.RangeFuncLeaves
import Derived.RangeFuncBox
import Derived.Shelf.Abstract
import Derived.Shelf.RegionOpen
import Derived.WalkKit
import Derived.OwnWalkIn
import Derived.TacticsInMore
import Derived.LoopNIn
import Derived.LoopIn
import Derived.Maps.AppendAt
namespace Go.Proofs.Ytegknpffiaeohaa
open Go.RowKit Go.Shelf

attribute [local go_sem] Oper.semAt_some

theorem infoInt : (Try.prog.info? 3).map (fun i => (i.zero, i.size, i.bytes)) = some (some (.int .i64 0), 1, 8) := by kernel_rfl
theorem holdL_nil {q : Ask} {l : List Ev} (h : holdErr q l.length ≠ 0) : holdL q l = [] := by unfold holdL; rw [if_neg h]
theorem timesL_le (l : List Bool) (a b : Int) : ∀ t, (timesL l a b t).length ≤ t := by
  intro t
  induction t with
  | zero => exact Nat.le_refl _
  | succ t ih => rw [timesL, List.length_append]; split <;> simp <;> omega

set_option maxRecDepth 100000 in
set_option maxHeartbeats 4000000 in
theorem times_any (q : Ask) (val v : Value) (l : List Ev) (a b : Int) (w : World) (h : AskV w q val) (hv : Sl evR w v l) (hl : ok64 l.length) (ha : -9223372036854775808 ≤ a ∧ a ≤ 9223372036854775807) (hb : -9223372036854775808 ≤ b ∧ b ≤ 9223372036854775807) :
    Calls Try.prog 15 #[val, v, .int .i64 a, .int .i64 b] w fun r w' => ∃ u, r = .returned (.tuple #[u, .int .i64 (holdErr q l.length)]) ∧ Sl intR w' u (timesL (holdL q l) a b (holdL q l).length) ∧ Bel w w' := by
  obtain ⟨i0, hi0, hz0, hz1, hz2⟩ := info_parts infoInt
  have HH := Lib.hid (fun val v W h hv => holds_any q val v l W h hv hl)
  have hLL := holdL_length q l
  have hLN := holdL_nil (q := q) (l := l)
  generalize holdErr q l.length = E at *
  generalize holdL q l = L at *
  have HQ := Lib.hid h
  have HV := Lib.hid hv
  obtain ⟨v', rfl, hsl⟩ := h
  obtain ⟨A, c, rfl, -⟩ := hsl
  obtain ⟨LA, lc, rfl, -⟩ := hv
  have hL4 := hLL.1
  have HE0 : Hid (E ≠ 0 → L = []) := Lib.hid hLN
  clear hLL hLN
  unfold ok64 at hl
  refine (callsIn_wide (n := 3)).1 ?_
  refine callsIn_of_wp_marks Try.func15 rfl trivial ?_ rfl
  simp only [Try.ntmps15, List.size_toArray, List.length_cons, List.length_nil, Nat.reduceAdd, Nat.reduceSub, Array.replicate_succ, Array.replicate_zero, List.push_toArray, List.append_toArray, List.nil_append, List.cons_append]
  gi_wp2_with fail
  have hb0 : Bel w (((w.alloc (.cells #[.int .i64 q.kind, .int .i64 q.n, .slice A q.args.length c] 37)).alloc (.cells #[.int .i64 a] 3)).alloc (.cells #[.int .i64 b] 3)) := (((Bel.rfl_ w).al _).al _).al _
  have bA := (Boxed.new (w.alloc (.cells #[.int .i64 q.kind, .int .i64 q.n, .slice A q.args.length c] 37)) 3 (.int .i64 a)).alloc (.cells #[.int .i64 b] 3)
  have bB := Boxed.new ((w.alloc (.cells #[.int .i64 q.kind, .int .i64 q.n, .slice A q.args.length c] 37)).alloc (.cells #[.int .i64 a] 3)) 3 (.int .i64 b)
  rw [World.size_alloc] at bA
  rw [World.size_alloc, World.size_alloc] at bB
  refine ⟨trivial, ?_⟩
  refine (callsIn_wide.2 (HH.out _ _ _ (HQ.out.keep hb0) (HV.out.keep hb0))).mono ?_
  rintro r w1 ⟨u, rfl, hbs, hb1⟩
  have hA1 : w1.cell? ⟨w.heap.size + 1, 0, none⟩ = some (.int .i64 a) := hb1.cell bA.cell
  have hB1 : w1.cell? ⟨w.heap.size + 1 + 1, 0, none⟩ = some (.int .i64 b) := hb1.cell bB.cell
  have HB1 := Lib.hid (hb0.tr hb1)
  have hsv := hbs.sl
  clear hb0 hb1 bA bB hbs HH HQ HV
  by_cases hE : E = 0
  · subst hE
    have HSV := Lib.hid hsv
    obtain ⟨B2, c2, rfl, -⟩ := hsv
    gi_wp2_with fail
    refine ⟨trivial, ?_⟩
    refine (runs_in _ _ _ _ _).mono ?_
    rintro r w2 ⟨rfl, rfl⟩
    gi_wp2_with fail
    have hbO : Bel w1 ((w1.alloc (.cells #[.slice none 0 0] 39)).alloc (.cells #[.slice B2 L.length c2] 48)) := ((Bel.rfl_ w1).al _).al _
    have bL := Boxed.new (w1.alloc (.cells #[.slice none 0 0] 39)) 48 (.slice B2 L.length c2)
    rw [World.size_alloc] at bL
    have bO := (Boxed.new w1 39 (.slice none 0 0)).alloc (.cells #[.slice B2 L.length c2] 48)
    refine wpIn_rangeFunc_ownG rfl (by omega) (gf := 50) (lb := #[.pointer (some ⟨w1.heap.size + 1, 0, none⟩)]) rfl trivial (enters_of Try.func50 (by kernel_rfl) rfl)
      (runs_stops _ (by omega) (w1.heap.size + 1) _ L hL4 w1 _ HSV.out hbO (by simp) bL.cell) kpR_t (kpR_b (by simp; omega) (by simp)) (Below.refl _ _) (fun _ => rfl)
      (fun pre W => (∃ u, Boxed W w1.heap.size 39 u ∧ W.ownsRow w1.heap.size 3 1 u (segs a b (clampL pre)).length ((segs a b (clampL pre)).map (Value.int .i64)) ∧ True) ∧ Boxed W (w1.heap.size + 1) 48 (.slice B2 L.length c2) ∧ Below w1.heap.size w1 W)
      (fun _ _ _ => False)
      (OwnFrom.and (Own.from (holdsRow_own w1.heap.size w1.heap.size 39 3 1 (fun pre => (segs a b (clampL pre)).length) (fun pre => (segs a b (clampL pre)).map (Value.int .i64)) (fun _ _ => True)) _) (OwnFrom.and (Own.from (boxed_own (w1.heap.size + 1) 48 (fun _ => .slice B2 L.length c2)) _) (ownFrom_below (Nat.le_refl _) (by simp; omega))))
      (fun _ _ _ _ _ hs _ _ => hs)
      ⟨⟨_, bO, World.ownsRow_nil _ _ _ _, trivial⟩, bL, hbO⟩
      ?a1 ?assign ?body ?done ?stop
    case assign =>
      intro l x W K hK
      gi_wp2
      exact hK
    case body =>
      rintro ly pre ⟨p, e⟩ W ⟨⟨u0, hu0, hrow0, -⟩, hbs0, hbw0⟩ hlt
      have hN := spans_length L
      have hsl := segs_length a b pre
      have hA2 := hbw0.cell (p := ⟨w.heap.size + 1, 0, none⟩) (block_lt_of_cell hA1) |>.trans hA1
      have hB2 := hbw0.cell (p := ⟨w.heap.size + 1 + 1, 0, none⟩) (block_lt_of_cell hB1) |>.trans hB1
      dsimp only
      have HSN : Hid (segs a b (clampL (pre ++ [(p, e)])) = segs a b (clampL pre) ++ segI (max ((min p 4000 : Nat) : Int) a) (min ((min e 4000 : Nat) : Int) b)) := Lib.hid (by rw [clampL_snoc, segs_snoc])
      have hp : min p 4000 ≤ 4000 := Nat.min_le_right _ _
      have he : min e 4000 ≤ 4000 := Nat.min_le_right _ _
      generalize min p 4000 = p' at *
      generalize min e 4000 = e' at *
      have hsb : (segs a b (clampL pre)).length ≤ 16000000 := by omega
      generalize segs a b (clampL pre) = S0 at *
      have HU0 := Lib.hid hu0
      have HR0 := Lib.hid hrow0
      have HBS0 := Lib.hid hbs0
      have HBW0 := Lib.hid hbw0
      clear hu0 hrow0 hbs0 hbw0 hsl hN hlt
      gi_wp2
      all_goals
        gi_loopw [15] (fun t wx => ∃ y : Int, t = .int .i64 y ∧ max (p' : Int) a ≤ y ∧ (y ≤ min (e' : Int) b ∨ y = max (p' : Int) a) ∧ Hid (∃ u, Boxed wx w1.heap.size 39 u ∧ wx.ownsRow w1.heap.size 3 1 u (S0 ++ segI (max (p' : Int) a) y).length ((S0 ++ segI (max (p' : Int) a) y).map (Value.int .i64))) ∧
          Hid (Boxed wx (w1.heap.size + 1) 48 (.slice B2 L.length c2)) ∧ Hid (Below w1.heap.size W wx) ∧ Hid (KeepsFrom (w1.heap.size + 1 + 1) W wx)) (fun t _ => (min (e' : Int) b - intOf t).toNat)
        case atStart => exact ⟨_, rfl, by omega, .inr (by omega), ⟨u0, HU0.out, by rw [segI_nil (by omega), List.append_nil]; exact HR0.out⟩, HBS0, Below.refl _ _, KeepsFrom.refl _ _⟩
        case round =>
          obtain ⟨y, rfl, hy1, hy2, HR, HBS, HBW, HKF⟩ := hrel
          have hA3 := (Below.trans HBW0.out HBW.out).cell (p := ⟨w.heap.size + 1, 0, none⟩) (block_lt_of_cell hA1) |>.trans hA1
          have hB3 := (Below.trans HBW0.out HBW.out).cell (p := ⟨w.heap.size + 1 + 1, 0, none⟩) (block_lt_of_cell hB1) |>.trans hB1
          by_cases hlt : y < min (e' : Int) b
          · have hlt1 : y < (e' : Int) := by omega
            have hlt2 : y < b := by omega
            rcases Int.lt_or_le b (e' : Int) with hbe | hbe
            · obtain ⟨u, hv, hrow⟩ := HR.out
              have hc := hv.cell
              have hsl := segI_length (max (p' : Int) a) y
              have hlen : (S0 ++ segI (max (p' : Int) a) y).length ≤ 16004000 := by rw [List.length_append, hsl]; omega
              have HSU : Hid (S0 ++ segI (max (p' : Int) a) (y + 1) = (S0 ++ segI (max (p' : Int) a) y) ++ [y]) := Lib.hid (by rw [segI_succ hy1, List.append_assoc])
              generalize S0 ++ segI (max (p' : Int) a) y = S1 at *
              have hnb : w1.heap.size ≤ wr.heap.size := by have := hv.lt; omega
              clear hsl
              gi_wp2_with (gi_at_builtin; refine wpListIn_append_own _ rfl _ _ 39 rfl w1.heap.size 3 i0 (.int .i64 0) 1 8 Try.underlying39 hi0 hz0 hz1 hz2 rfl (by decide) _ _ _ rfl (hrow.alloc _) ⟨wr.heap.size, 0, none⟩ 1 1 [.int .i64 y] rfl rfl (cell_one_new _ _ _) (by simp [Value.oneCell']) (by simp only [maxLen]; omega) (by omega) (by simp; omega) ?_; intro v' w3 hown' hgrow _; obtain ⟨g', cap', rfl⟩ := ownsRow_succ hown'; obtain ⟨hv1, hv2, hr2, hk2, hb2⟩ := hv.appended (by decide) hrow hnb (Nat.le_refl _) hown' hgrow; have hc1 := hv1.cell; have hf1 := hv1.frozen; have HBS3 := Lib.hid (((HBS.out.alloc _).kept hgrow (HBS.out.not_row (by decide) hrow)).other (B' := w1.heap.size) (by omega) (.slice (some ⟨g', 0, none⟩) (S1.length + 1) cap')); have HV2 := Lib.hid hv2; have HR2 := Lib.hid hr2; have HK2 := Lib.hid hk2; have HB2 := Lib.hid hb2; clear hv2 hr2 hk2 hb2 hown' hgrow)
              go_roundw
              case rel => exact ⟨y + 1, by go_num, by omega, .inl (by omega), ⟨_, HV2.out, by rw [HSU.out]; simpa using HR2.out⟩, HBS3, HBW.out.trans HB2.out, HKF.out.trans (HK2.out.from _)⟩
              case measure => simp [intOf]; omega
            · obtain ⟨u, hv, hrow⟩ := HR.out
              have hc := hv.cell
              have hsl := segI_length (max (p' : Int) a) y
              have hlen : (S0 ++ segI (max (p' : Int) a) y).length ≤ 16004000 := by rw [List.length_append, hsl]; omega
              have HSU : Hid (S0 ++ segI (max (p' : Int) a) (y + 1) = (S0 ++ segI (max (p' : Int) a) y) ++ [y]) := Lib.hid (by rw [segI_succ hy1, List.append_assoc])
              generalize S0 ++ segI (max (p' : Int) a) y = S1 at *
              have hnb : w1.heap.size ≤ wr.heap.size := by have := hv.lt; omega
              clear hsl
              gi_wp2_with (gi_at_builtin; refine wpListIn_append_own _ rfl _ _ 39 rfl w1.heap.size 3 i0 (.int .i64 0) 1 8 Try.underlying39 hi0 hz0 hz1 hz2 rfl (by decide) _ _ _ rfl (hrow.alloc _) ⟨wr.heap.size, 0, none⟩ 1 1 [.int .i64 y] rfl rfl (cell_one_new _ _ _) (by simp [Value.oneCell']) (by simp only [maxLen]; omega) (by omega) (by simp; omega) ?_; intro v' w3 hown' hgrow _; obtain ⟨g', cap', rfl⟩ := ownsRow_succ hown'; obtain ⟨hv1, hv2, hr2, hk2, hb2⟩ := hv.appended (by decide) hrow hnb (Nat.le_refl _) hown' hgrow; have hc1 := hv1.cell; have hf1 := hv1.frozen; have HBS3 := Lib.hid (((HBS.out.alloc _).kept hgrow (HBS.out.not_row (by decide) hrow)).other (B' := w1.heap.size) (by omega) (.slice (some ⟨g', 0, none⟩) (S1.length + 1) cap')); have HV2 := Lib.hid hv2; have HR2 := Lib.hid hr2; have HK2 := Lib.hid hk2; have HB2 := Lib.hid hb2; clear hv2 hr2 hk2 hb2 hown' hgrow)
              go_roundw
              case rel => exact ⟨y + 1, by go_num, by omega, .inl (by omega), ⟨_, HV2.out, by rw [HSU.out]; simpa using HR2.out⟩, HBS3, HBW.out.trans HB2.out, HKF.out.trans (HK2.out.from _)⟩
              case measure => simp [intOf]; omega
          · rcases Int.lt_or_le b (e' : Int) with hbe | hbe
            · have h3 : ¬ y < b := by omega
              have HFS : Hid (segI (max (p' : Int) a) y = segI (max (p' : Int) a) (min (e' : Int) b)) := Lib.hid (by
                rcases hy2 with h | h
                · rw [show y = min (e' : Int) b by omega]
                · rw [h, segI_nil (Int.le_refl _), segI_nil (by omega)])
              gi_wp2
              refine ⟨by simpa using HKF.out, ⟨HBW.out, fun v hv => by rw [HBS0.out.cell] at hv; rw [HBS.out.cell]; exact hv⟩, ?_, HBS.out, HBW0.out.trans HBW.out⟩
              obtain ⟨u, hv, hrow⟩ := HR.out
              rw [HFS.out, ← HSN.out] at hrow
              exact ⟨u, hv, hrow⟩
            · have h3 : ¬ y < (e' : Int) := by omega
              have HFS : Hid (segI (max (p' : Int) a) y = segI (max (p' : Int) a) (min (e' : Int) b)) := Lib.hid (by
                rcases hy2 with h | h
                · rw [show y = min (e' : Int) b by omega]
                · rw [h, segI_nil (Int.le_refl _), segI_nil (by omega)])
              gi_wp2
              refine ⟨by simpa using HKF.out, ⟨HBW.out, fun v hv => by rw [HBS0.out.cell] at hv; rw [HBS.out.cell]; exact hv⟩, ?_, HBS.out, HBW0.out.trans HBW.out⟩
              obtain ⟨u, hv, hrow⟩ := HR.out
              rw [HFS.out, ← HSN.out] at hrow
              exact ⟨u, hv, hrow⟩
    case done =>
      rintro D ys W hD rfl ⟨⟨u, hv, hrow, -⟩, hbs, hbw⟩ hK
      have hc := hv.cell
      gi_wp2
      refine ⟨by simp, .inl ⟨_, _, rfl, run_takeDeferred hK, ?_⟩⟩
      rw [clampL_spans hL4, times_spans] at hrow
      exact ⟨_, results_tmp2 rfl _ _ _, u, rfl, Sl.own_int (ownsRow_putObj hrow _ hK rfl) rfl, HB1.out.tr (hbw.trans (belowK_b (w := w1) (Nat.le_refl _) W D _ _ (by simp at hD; omega) hK rfl rfl))⟩
    case stop =>
      rintro D c pre W _ _ h _
      exact h.elim
  · have HL0 : Hid (L = []) := Lib.hid (HE0.out hE)
    gi_wp2
    exact ⟨_, results_tmp2 rfl _ _ _, .slice none 0 0, rfl, by rw [HL0.out]; exact Sl.nil_ _ _, HB1.out⟩

end Go.Proofs.Ytegknpffiaeohaa
