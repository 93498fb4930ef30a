/- First, Spans walked. Each lemma states its own conditions. -/
import Derived.Test.YtegknpffiaeohaaWhenB
import Derived.RangeFuncNested
import Derived.RangeFuncBound
import Derived.RangeFuncCalls
import Derived.RangeFuncLeaves
import Derived.RangeFuncBox
import Derived.Shelf.Abstract
import Derived.Shelf.RegionOpen
import Derived.WalkKit
import Derived.OwnWalkIn
import Derived.TacticsInMore
import Derived.LoopNIn
import Derived.LoopIn
import Derived.Maps.AppendAt
namespace Go.Proofs.Ytegknpffiaeohaa
open Go.RowKit Go.Shelf

attribute [local go_sem] Oper.semAt_some

theorem infoSpan : (Try.prog.info? 52).map (fun i => (i.zero, i.size, i.bytes)) = some (some (.agg #[.int .i64 0, .int .i64 0]), 2, 16) := by kernel_rfl
theorem cells_two_new (w : World) (x y : Value) (t : TypeId) : ∀ (j : Nat) (u : Value), [x, y][j]? = some u → (w.alloc (.cells #[x, y] t)).cell? ((⟨w.heap.size, 0, none⟩ : Addr).add j) = some u := by
  intro j u hu
  have hadd : (⟨w.heap.size, 0, none⟩ : Addr).add j = ⟨w.heap.size, j, none⟩ := by unfold Addr.add; split <;> simp_all
  rw [hadd]
  exact (Blk.new w t #[x, y]).cell (by simpa using hu)

set_option maxRecDepth 100000 in
set_option maxHeartbeats 4000000 in
theorem spans_any (q : Ask) (val v : Value) (l : List Ev) (w : World) (h : AskV w q val) (hv : Sl evR w v l) (hl : ok64 l.length) :
    Calls Try.prog 17 #[val, v] w fun r w' => ∃ u, r = .returned (.tuple #[u, .int .i64 (holdErr q l.length)]) ∧ Sl spanR w' u (spansL (holdL q l)) ∧ Bel w w' := by
  obtain ⟨i0, hi0, hz0, hz1, hz2⟩ := info_parts infoSpan
  have HH := Lib.hid (fun val v W h hv => holds_any q val v l W h hv hl)
  have hLL := holdL_length q l
  have hLN := holdL_nil (q := q) (l := l)
  generalize holdErr q l.length = E at *
  generalize holdL q l = L at *
  have HQ := Lib.hid h
  have HV := Lib.hid hv
  obtain ⟨v', rfl, hsl⟩ := h
  obtain ⟨A, c, rfl, -⟩ := hsl
  obtain ⟨LA, lc, rfl, -⟩ := hv
  have hL4 := hLL.1
  have HE0 : Hid (E ≠ 0 → L = []) := Lib.hid hLN
  clear hLL hLN
  unfold ok64 at hl
  refine (callsIn_wide (n := 3)).1 ?_
  refine callsIn_of_wp_marks Try.func17 rfl trivial ?_ rfl
  simp only [Try.ntmps17, List.size_toArray, List.length_cons, List.length_nil, Nat.reduceAdd, Nat.reduceSub, Array.replicate_succ, Array.replicate_zero, List.push_toArray, List.append_toArray, List.nil_append, List.cons_append]
  gi_wp2_with fail
  have hb0 : Bel w (w.alloc (.cells #[.int .i64 q.kind, .int .i64 q.n, .slice A q.args.length c] 37)) := (Bel.rfl_ w).al _
  refine ⟨trivial, ?_⟩
  refine (callsIn_wide.2 (HH.out _ _ _ (HQ.out.keep hb0) (HV.out.keep hb0))).mono ?_
  rintro r w1 ⟨u, rfl, hbs, hb1⟩
  have HB1 := Lib.hid (hb0.tr hb1)
  have hsv := hbs.sl
  clear hb0 hb1 hbs HH HQ HV
  by_cases hE : E = 0
  · subst hE
    have HSV := Lib.hid hsv
    obtain ⟨B2, c2, rfl, -⟩ := hsv
    gi_wp2_with fail
    refine ⟨trivial, ?_⟩
    refine (runs_in _ _ _ _ _).mono ?_
    rintro r w2 ⟨rfl, rfl⟩
    gi_wp2_with fail
    have hbO : Bel w1 ((w1.alloc (.cells #[.slice none 0 0] 44)).alloc (.cells #[.slice B2 L.length c2] 48)) := ((Bel.rfl_ w1).al _).al _
    have bL := Boxed.new (w1.alloc (.cells #[.slice none 0 0] 44)) 48 (.slice B2 L.length c2)
    rw [World.size_alloc] at bL
    have bO := (Boxed.new w1 44 (.slice none 0 0)).alloc (.cells #[.slice B2 L.length c2] 48)
    refine wpIn_rangeFunc_ownG rfl (by omega) (gf := 50) (lb := #[.pointer (some ⟨w1.heap.size + 1, 0, none⟩)]) rfl trivial (enters_of Try.func50 (by kernel_rfl) rfl)
      (runs_stops _ (by omega) (w1.heap.size + 1) _ L hL4 w1 _ HSV.out hbO (by simp) bL.cell) kpR_t (kpR_b (by simp; omega) (by simp)) (Below.refl _ _) (fun _ => rfl)
      (fun pre W => (∃ u, Boxed W w1.heap.size 44 u ∧ W.ownsRow w1.heap.size 52 2 u (clampL pre).length (spCells (clampL pre)) ∧ True) ∧ Boxed W (w1.heap.size + 1) 48 (.slice B2 L.length c2) ∧ Below w1.heap.size w1 W)
      (fun _ _ _ => False)
      (OwnFrom.and (Own.from (holdsRow_own w1.heap.size w1.heap.size 44 52 2 (fun pre => (clampL pre).length) (fun pre => spCells (clampL pre)) (fun _ _ => True)) _) (OwnFrom.and (Own.from (boxed_own (w1.heap.size + 1) 48 (fun _ => .slice B2 L.length c2)) _) (ownFrom_below (Nat.le_refl _) (by simp; omega))))
      (fun _ _ _ _ _ hs _ _ => hs)
      ⟨⟨_, bO, World.ownsRow_nil _ _ _ _, trivial⟩, bL, hbO⟩
      ?a1 ?assign ?body ?done ?stop
    case assign =>
      intro l x W K hK
      gi_wp2
      exact hK
    case body =>
      rintro ly pre ⟨p, e⟩ W ⟨⟨u0, hu0, hrow0, -⟩, hbs0, hbw0⟩ hlt
      have hN := spans_length L
      have hcl := clampL_length pre
      dsimp only
      have HSN : Hid (clampL (pre ++ [(p, e)]) = clampL pre ++ [(min p 4000, min e 4000)]) := Lib.hid (clampL_snoc _ _)
      have hp : min p 4000 ≤ 4000 := Nat.min_le_right _ _
      have he : min e 4000 ≤ 4000 := Nat.min_le_right _ _
      generalize min p 4000 = p' at *
      generalize min e 4000 = e' at *
      have hsb : (clampL pre).length ≤ 4000 := by omega
      generalize clampL pre = S1 at *
      clear hcl hN hlt
      have hc := hu0.cell
      have hnb : w1.heap.size ≤ W.heap.size := by have := hu0.lt; omega
      have HBS := Lib.hid hbs0
      have HBW := Lib.hid hbw0
      clear hbs0 hbw0
      gi_wp2_with (gi_at_builtin; refine wpListIn_append_own _ rfl _ _ 44 rfl w1.heap.size 52 i0 _ 2 16 Try.underlying44 hi0 hz0 hz1 hz2 rfl (by decide) _ _ _ rfl (hrow0.alloc _) ⟨W.heap.size, 0, none⟩ 1 1 [.int .i64 p', .int .i64 e'] rfl rfl (cells_two_new _ _ _ _) (by simp [Value.oneCell']) (by simp only [maxLen]; omega) (by omega) (by simp; omega) ?_; intro v' w3 hown' hgrow _; obtain ⟨g', cap', rfl⟩ := ownsRow_succ hown'; obtain ⟨hv1, hv2, hr2, hk2, hb2⟩ := hu0.appended (by decide) hrow0 hnb (Nat.le_refl _) hown' hgrow; have hc1 := hv1.cell; have hf1 := hv1.frozen; have HBS3 := Lib.hid (((HBS.out.alloc _).kept hgrow (HBS.out.not_row (by decide) hrow0)).other (B' := w1.heap.size) (by omega) (.slice (some ⟨g', 0, none⟩) (S1.length + 1) cap')); have HV2 := Lib.hid hv2; have HR2 := Lib.hid hr2; have HK2 := Lib.hid hk2; have HB2 := Lib.hid hb2; clear hv2 hr2 hk2 hb2 hown' hgrow)
      refine ⟨HK2.out.from _, ⟨HB2.out, fun v hv => by rw [HBS.out.cell] at hv; rw [HBS3.out.cell]; exact hv⟩, ⟨_, HV2.out, ?_⟩, HBS3.out, HBW.out.trans HB2.out⟩
      rw [HSN.out, spCells_snoc, List.length_append]
      exact ⟨HR2.out, trivial⟩
    case done =>
      rintro D ys W hD rfl ⟨⟨u, hv, hrow, -⟩, hbs, hbw⟩ hK
      have hc := hv.cell
      gi_wp2
      refine ⟨by simp, .inl ⟨_, _, rfl, run_takeDeferred hK, ?_⟩⟩
      rw [clampL_spans hL4] at hrow
      exact ⟨_, results_tmp2 rfl _ _ _, u, rfl, Sl.own_spans (ownsRow_putObj hrow _ hK rfl) rfl, HB1.out.tr (hbw.trans (belowK_b (w := w1) (Nat.le_refl _) W D _ _ (by simp at hD; omega) hK rfl rfl))⟩
    case stop =>
      rintro D c pre W _ _ h _
      exact h.elim
  · have HL0 : Hid (L = []) := Lib.hid (HE0.out hE)
    gi_wp2
    exact ⟨_, results_tmp2 rfl _ _ _, .slice none 0 0, rfl, by rw [HL0.out]; exact Sl.nil_ _ _, HB1.out⟩

theorem results_first {W : World} {tmps : Array Value} {x y z : Value} {B : Nat} (t4 : tmps.getD 4 undef = .pointer (some ⟨B + 1, 0, none⟩)) (t5 : tmps.getD 5 undef = .pointer (some ⟨B + 1 + 1, 0, none⟩)) (t6 : tmps.getD 6 undef = .pointer (some ⟨B + 1 + 1 + 1, 0, none⟩))
    (h4 : Boxed W (B + 1) 3 x) (h5 : Boxed W (B + 1 + 1) 4 y) (h6 : Boxed W (B + 1 + 1 + 1) 23 z) (hx : ∃ i, x = .int .i64 i) (hy : ∃ b, y = .bool b) (hz : ∃ i, z = .int .i64 i) : (results Try.f16 tmps).run Try.prog W = .ok (.tuple #[x, y, z]) W := by
  obtain ⟨i, rfl⟩ := hx
  obtain ⟨b, rfl⟩ := hy
  obtain ⟨k, rfl⟩ := hz
  have c4 := h4.cell
  have c5 := h5.cell
  have c6 := h6.cell
  have hr : Try.f16.results = #[.cell 4 3, .cell 5 4, .cell 6 23] := rfl
  rw [Array.getD_eq_getD_getElem?] at t4 t5 t6
  simp [results, t4, t5, t6, c4, c5, c6, go_sem]

set_option maxRecDepth 100000 in
set_option maxHeartbeats 4000000 in
theorem first_any (q : Ask) (val v : Value) (l : List Ev) (w : World) (h : AskV w q val) (hv : Sl evR w v l) (hl : ok64 l.length) :
    Calls Try.prog 16 #[val, v] w fun r w' => ∃ x is, r = .returned (.tuple #[.int .i64 x, .bool is, .int .i64 (holdErr q l.length)]) ∧ First (holdL q l) 0 (holdL q l).length x is ∧ Bel w w' := by
  have HH := Lib.hid (fun val v W h hv => holds_any q val v l W h hv hl)
  have hLL := holdL_length q l
  have hLN := holdL_nil (q := q) (l := l)
  generalize holdErr q l.length = E at *
  generalize holdL q l = L at *
  have HQ := Lib.hid h
  have HV := Lib.hid hv
  obtain ⟨v', rfl, hsl⟩ := h
  obtain ⟨A, c, rfl, -⟩ := hsl
  obtain ⟨LA, lc, rfl, -⟩ := hv
  have hL4 := hLL.1
  have HE0 : Hid (E ≠ 0 → L = []) := Lib.hid hLN
  clear hLL hLN
  unfold ok64 at hl
  refine (callsIn_wide (n := 3)).1 ?_
  refine callsIn_of_wp_marks Try.func16 rfl trivial ?_ rfl
  simp only [Try.ntmps16, List.size_toArray, List.length_cons, List.length_nil, Nat.reduceAdd, Nat.reduceSub, Array.replicate_succ, Array.replicate_zero, List.push_toArray, List.append_toArray, List.nil_append, List.cons_append]
  gi_wp2_with fail
  have hb0 : Bel w ((((w.alloc (.cells #[.int .i64 q.kind, .int .i64 q.n, .slice A q.args.length c] 37)).alloc (.cells #[.int .i64 0] 3)).alloc (.cells #[.bool false] 4)).alloc (.cells #[.int .i64 0] 23)) := ((((Bel.rfl_ w).al _).al _).al _).al _
  have b4 := ((Boxed.new (w.alloc (.cells #[.int .i64 q.kind, .int .i64 q.n, .slice A q.args.length c] 37)) 3 (.int .i64 0)).alloc (.cells #[.bool false] 4)).alloc (.cells #[.int .i64 0] 23)
  have b5 := (Boxed.new ((w.alloc (.cells #[.int .i64 q.kind, .int .i64 q.n, .slice A q.args.length c] 37)).alloc (.cells #[.int .i64 0] 3)) 4 (.bool false)).alloc (.cells #[.int .i64 0] 23)
  have b6 := Boxed.new (((w.alloc (.cells #[.int .i64 q.kind, .int .i64 q.n, .slice A q.args.length c] 37)).alloc (.cells #[.int .i64 0] 3)).alloc (.cells #[.bool false] 4)) 23 (.int .i64 0)
  simp only [World.size_alloc] at b4 b5 b6
  refine ⟨trivial, ?_⟩
  refine (callsIn_wide.2 (HH.out _ _ _ (HQ.out.keep hb0) (HV.out.keep hb0))).mono ?_
  rintro r w1 ⟨u, rfl, hbs, hb1⟩
  have HB1 := Lib.hid (hb0.tr hb1)
  have b4 := b4.kept (hb1.grown none) (by simp)
  have b5 := b5.kept (hb1.grown none) (by simp)
  have b6 := b6.kept (hb1.grown none) (by simp)
  have hsv := hbs.sl
  have c4 := b4.cell
  have c5 := b5.cell
  have c6 := b6.cell
  have f4 := b4.frozen
  have f5 := b5.frozen
  have f6 := b6.frozen
  clear hb0 hb1 hbs HH HQ HV
  have hsz1 : w.heap.size + 1 + 1 + 1 < w1.heap.size := b6.lt
  by_cases hE : E = 0
  · subst hE
    have HSV := Lib.hid hsv
    obtain ⟨B2, c2, rfl, -⟩ := hsv
    gi_wp2_with fail
    refine ⟨trivial, ?_⟩
    refine (runs_in _ _ _ _ _).mono ?_
    rintro r w2 ⟨rfl, rfl⟩
    gi_wp2_with fail
    have hbO : Bel w1 (w1.alloc (.cells #[.slice B2 L.length c2] 48)) := (Bel.rfl_ w1).al _
    have bL := Boxed.new w1 48 (.slice B2 L.length c2)
    refine wpIn_rangeFunc_ownG rfl (by omega) (gf := 50) (lb := #[.pointer (some ⟨w1.heap.size, 0, none⟩)]) rfl trivial (enters_of Try.func50 (by kernel_rfl) rfl)
      (runs_stops _ (by omega) w1.heap.size _ L hL4 w1 _ HSV.out hbO (by simp) bL.cell) kpR_t (kpR_b (by simp) (by simp)) (Below.refl _ _) (fun _ => rfl)
      (fun pre W => pre = [] ∧ (Boxed W (w.heap.size + 1) 3 (.int .i64 0) ∧ Boxed W (w.heap.size + 1 + 1) 4 (.bool false) ∧ Boxed W (w.heap.size + 1 + 1 + 1) 23 (.int .i64 0)) ∧ Below w.heap.size w W)
      (fun c pre W => (c = .ret ∧ ∃ x : Nat × Nat, pre = [x] ∧ Boxed W (w.heap.size + 1) 3 (.int .i64 ((min x.1 4000 : Nat) : Int)) ∧ Boxed W (w.heap.size + 1 + 1) 4 (.bool true) ∧ Boxed W (w.heap.size + 1 + 1 + 1) 23 (.int .i64 0)) ∧ Below w.heap.size w W)
      (OwnFrom.and (ownFrom_pure _ _) (OwnFrom.and (OwnFrom.and (Own.from (boxed_own (w.heap.size + 1) 3 (fun _ => .int .i64 0)) _) (OwnFrom.and (Own.from (boxed_own (w.heap.size + 1 + 1) 4 (fun _ => .bool false)) _) (Own.from (boxed_own (w.heap.size + 1 + 1 + 1) 23 (fun _ => .int .i64 0)) _))) (ownFrom_below (Nat.le_refl _) (by simp; omega))))
      (fun c => OwnFrom.and (fun s W W' row hs hg hr => ⟨hs.1, hs.2.choose, hs.2.choose_spec.1,
        (Own.from (boxed_own (β := Unit) (w.heap.size + 1) 3 (fun _ => _)) _) () W W' row hs.2.choose_spec.2.1 hg hr, (Own.from (boxed_own (β := Unit) (w.heap.size + 1 + 1) 4 (fun _ => .bool true)) _) () W W' row hs.2.choose_spec.2.2.1 hg hr, (Own.from (boxed_own (β := Unit) (w.heap.size + 1 + 1 + 1) 23 (fun _ => .int .i64 0)) _) () W W' row hs.2.choose_spec.2.2.2 hg hr⟩) (ownFrom_below (Nat.le_refl _) (by simp; omega)))
      ⟨rfl, ⟨b4.alloc _, b5.alloc _, b6.alloc _⟩, HB1.out.al _⟩
      ?a1 ?assign ?body ?done ?stop
    case assign =>
      intro l x W K hK
      gi_wp2
      exact hK
    case body =>
      rintro ly pre ⟨p, e⟩ W ⟨rfl, ⟨i4, i5, i6⟩, hbw⟩ hlt
      dsimp only
      have d4 := i4.cell
      have d5 := i5.cell
      have d6 := i6.cell
      have g4 := i4.frozen
      have g5 := i5.frozen
      have g6 := i6.frozen
      gi_wp2
      refine ⟨?_, ⟨rfl, (p, e), rfl, ?_, ?_, ?_⟩, ?_⟩
      · exact (((KeepsOthers.setCell _ _ _).trans (KeepsOthers.setCell _ _ _)).trans (KeepsOthers.setCell _ _ _)).from _
      · exact ((i4.set _).other (by omega) _).other (by omega) _
      · exact ((i5.other (by omega) _).set _).other (by omega) _
      · exact ((i6.other (by omega) _).other (by omega) _).set _
      · exact ((hbw.setCell (p := ⟨w.heap.size + 1, 0, none⟩) (by dsimp only; omega) _).setCell (p := ⟨w.heap.size + 1 + 1, 0, none⟩) (by dsimp only; omega) _).setCell (p := ⟨w.heap.size + 1 + 1 + 1, 0, none⟩) (by dsimp only; omega) _
    case done =>
      rintro D ys W hD rfl ⟨he, ⟨i4, i5, i6⟩, hbw⟩ hK
      have d4 := i4.cell
      have d5 := i5.cell
      have d6 := i6.cell
      have g4 := i4.frozen
      have g5 := i5.frozen
      have g6 := i6.frozen
      gi_wp2
      have j4 := ((i4.set (.int .i64 0)).other (B' := w.heap.size + 1 + 1) (by omega) (.bool false)).other (B' := w.heap.size + 1 + 1 + 1) (by omega) (.int .i64 0)
      have j5 := ((i5.other (B' := w.heap.size + 1) (by omega) (.int .i64 0)).set (.bool false)).other (B' := w.heap.size + 1 + 1 + 1) (by omega) (.int .i64 0)
      have j6 := ((i6.other (B' := w.heap.size + 1) (by omega) (.int .i64 0)).other (B' := w.heap.size + 1 + 1) (by omega) (.bool false)).set (.int .i64 0)
      have hK' := ((KeepsOthers.setCell W ⟨w.heap.size + 1, 0, none⟩ (.int .i64 0)).trans ((KeepsOthers.setCell _ ⟨w.heap.size + 1 + 1, 0, none⟩ (.bool false)).trans (KeepsOthers.setCell _ ⟨w.heap.size + 1 + 1 + 1, 0, none⟩ (.int .i64 0)))).same D _ hK rfl
      have hD' : w.heap.size + 1 + 1 + 1 < D := by simp at hD; omega
      have hbw' := ((hbw.setCell (p := ⟨w.heap.size + 1, 0, none⟩) (by dsimp only; omega) (.int .i64 0)).setCell (p := ⟨w.heap.size + 1 + 1, 0, none⟩) (by dsimp only; omega) (.bool false)).setCell (p := ⟨w.heap.size + 1 + 1 + 1, 0, none⟩) (by dsimp only; omega) (.int .i64 0)
      refine ⟨by simp, .inl ⟨_, _, rfl, run_takeDeferred hK', ?_⟩⟩
      refine ⟨_, results_first (B := w.heap.size) rfl rfl rfl (j4.kept (grownBy_putObj' _ D _) (by simp; omega)) (j5.kept (grownBy_putObj' _ D _) (by simp; omega)) (j6.kept (grownBy_putObj' _ D _) (by simp; omega)) ⟨_, rfl⟩ ⟨_, rfl⟩ ⟨_, rfl⟩, 0, false, rfl, first_none he, ?_⟩
      exact hbw'.trans (belowK_b (w := w) (Nat.le_refl _) _ D _ _ (by omega) hK' rfl rfl)
    case stop =>
      rintro D c pre W hD hSp ⟨⟨rfl, x, rfl, i4, i5, i6⟩, hbw⟩ hK
      have d4 := i4.cell
      have d5 := i5.cell
      have d6 := i6.cell
      gi_wp2
      have hD' : w.heap.size + 1 + 1 + 1 < D := by simp at hD; omega
      refine ⟨by simp, .inl ⟨_, _, rfl, run_takeDeferred hK, ?_⟩⟩
      obtain ⟨ys, hys⟩ := hSp
      have hx := first_some hys.symm
      have hx4 : x.1 ≤ 4000 := by
        rcases hx with ⟨h, _⟩ | ⟨_, u, hu, _, h2, _⟩
        · cases h
        · omega
      rw [Nat.min_eq_left hx4] at i4
      refine ⟨_, results_first (B := w.heap.size) rfl rfl rfl (i4.kept (grownBy_putObj' _ D _) (by simp; omega)) (i5.kept (grownBy_putObj' _ D _) (by simp; omega)) (i6.kept (grownBy_putObj' _ D _) (by simp; omega)) ⟨_, rfl⟩ ⟨_, rfl⟩ ⟨_, rfl⟩, x.1, true, rfl, hx, ?_⟩
      exact hbw.trans (belowK_b (w := w) (Nat.le_refl _) _ D _ _ (by omega) hK rfl rfl)
  · have HL0 : Hid (L = []) := Lib.hid (HE0.out hE)
    gi_wp2
    have j4 := ((b4.set (.int .i64 0)).other (B' := w.heap.size + 1 + 1) (by omega) (.bool false)).other (B' := w.heap.size + 1 + 1 + 1) (by omega) (.int .i64 E)
    have j5 := ((b5.other (B' := w.heap.size + 1) (by omega) (.int .i64 0)).set (.bool false)).other (B' := w.heap.size + 1 + 1 + 1) (by omega) (.int .i64 E)
    have j6 := ((b6.other (B' := w.heap.size + 1) (by omega) (.int .i64 0)).other (B' := w.heap.size + 1 + 1) (by omega) (.bool false)).set (.int .i64 E)
    have hbw' := ((HB1.out.setCell (p := ⟨w.heap.size + 1, 0, none⟩) (by dsimp only; omega) (.int .i64 0)).setCell (p := ⟨w.heap.size + 1 + 1, 0, none⟩) (by dsimp only; omega) (.bool false)).setCell (p := ⟨w.heap.size + 1 + 1 + 1, 0, none⟩) (by dsimp only; omega) (.int .i64 E)
    exact ⟨_, results_first (B := w.heap.size) rfl rfl rfl j4 j5 j6 ⟨_, rfl⟩ ⟨_, rfl⟩ ⟨_, rfl⟩, 0, false, rfl, by rw [HL0.out]; exact .inl ⟨rfl, rfl, fun v _ h => by simp at h⟩, hbw'⟩

end Go.Proofs.Ytegknpffiaeohaa
