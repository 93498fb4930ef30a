/- At which events a query holds: the document's answer at one event walked. Each lemma states its own conditions. -/
import Derived.Test.YtegknpffiaeohaaDoorQryI
namespace Go.Proofs.YtegknpffiaeohaaDoor
open Go.RowKit

/-- .. at one event -/
def atS (k n : Int) (l : List Ev) (b0 b1 : List Bool) (t : Nat) : Bool := if k = 14 then soonAt b0 n l.length t else fw (stepK k n l b0 b1) (decide (k = 12)) (t + 1)
theorem soonAt_false {b0 : List Bool} {n : Int} {len t u : Nat} (_htu : t ≤ u) (h : ∀ v, t ≤ v → v < u → bg b0 v = false) (he : len ≤ u ∨ n < (u : Int) - t) : soonAt b0 n len t = false := by
  unfold soonAt
  rw [List.any_eq_false]
  intro d hd
  rw [List.mem_range] at hd
  by_cases hu : t + d < u
  · rw [h (t + d) (by omega) hu]; simp
  · have : ¬ ((d : Int) ≤ n) := by omega
    rw [decide_eq_false this]; simp
theorem soonAt_true {b0 : List Bool} {n : Int} {len t u : Nat} (htu : t ≤ u) (hu : u < len) (hn : (u : Int) - t ≤ n) (hb : bg b0 u = true) : soonAt b0 n len t = true := by
  unfold soonAt
  rw [List.any_eq_true]
  refine ⟨u - t, by rw [List.mem_range]; omega, ?_⟩
  rw [Bool.and_eq_true, decide_eq_true_eq, show t + (u - t) = u by omega]
  exact ⟨by omega, hb⟩

set_option maxRecDepth 20000 in
set_option maxHeartbeats 1000000 in
theorem holdsAt_evt (k n : Int) (A : Option Addr) (m c : Nat) (lv sv : Value) (l : List Ev) (t : Nat) (e : Ev) (w : World) (hk : 1 ≤ k ∧ k ≤ 6) (hs : Sl evR w lv l) (hsv : ∃ A m c, sv = .slice A m c) (ht : l[t]? = some e) (hl : l.length ≤ 4000) :
    Calls Tryd.prog 37 #[.agg #[.int .i64 k, .int .i64 n, .slice A m c], lv, sv, .int .i64 t] w fun r w' => r = .returned (.bool (evt k n e)) ∧ Bel w w' := by
  obtain ⟨SA, sm, sc, rfl⟩ := hsv
  obtain ⟨B, d, rfl, hd, hm, hB⟩ := hs
  have hlt : t < l.length := (List.getElem?_eq_some_iff.1 ht).1
  obtain ⟨b, o, rfl, hc⟩ := hB (by omega)
  obtain ⟨x0, x1, x2, x3, x4, x5⟩ := evR.cells hc ht
  clear hc hB ht
  have HF1 := Lib.hid (fun W => fits_any e 1 n W)
  have HF2 := Lib.hid (fun W => fits_any e 2 n W)
  have HF5 := Lib.hid (fun W => fits_any e 5 n W)
  have HT : Hid ((if k = 1 then fits e 1 n else if k = 2 then fits e 2 n else if k = 3 then fits e 5 n else if k = 4 then e.kind == 4 else if k = 5 then decide (e.value < n) else e.value == n) = evt k n e) := Lib.hid rfl
  unfold Ev.val at HF1 HF2 HF5
  generalize evt k n e = T at HT ⊢
  generalize fits e 1 n = f1 at *
  generalize fits e 2 n = f2 at *
  generalize fits e 5 n = f5 at *
  generalize e.kind = ek at *
  generalize e.frame = ef at *
  generalize e.at_ = ea at *
  generalize e.var = ev at *
  generalize e.index = ei at *
  generalize e.value = el at *
  generalize l.length = len at *
  have hB0 : Bel w (w.alloc (.cells #[.int .i64 k, .int .i64 n, .slice A m c] 24)) := (Bel.rfl_ w).al _
  have y0 := hB0.cell x0
  have y1 := hB0.cell x1
  have y2 := hB0.cell x2
  have y3 := hB0.cell x3
  have y4 := hB0.cell x4
  have y5 := hB0.cell x5
  have HB0 := Lib.hid hB0
  clear hB0
  by_cases k1 : k = 1
  · subst k1
    go_enter Tryd.func37, Tryd.ntmps37
    go_wp2
    go_region_law (first | (go_simp; go_at_call 63; refine (HF1.out _).mono ?_; rintro r w2 ⟨rfl, hb2⟩; have hbW := Lib.hid (HB0.out.tr (Bel.tr (a := w.alloc (.cells #[.int .i64 1, .int .i64 n, .slice A m c] 24)) (by repeat (first | exact Bel.rfl_ _ | apply Bel.dr | apply Bel.al)) hb2)); clear hb2))
    all_goals go_wp2
    all_goals go_ret
    all_goals exact ⟨by rw [← HT.out]; rfl, hbW.out⟩
  by_cases k2 : k = 2
  · subst k2
    go_enter Tryd.func37, Tryd.ntmps37
    go_wp2
    go_region_law (first | (go_simp; go_at_call 63; refine (HF2.out _).mono ?_; rintro r w2 ⟨rfl, hb2⟩; have hbW := Lib.hid (HB0.out.tr (Bel.tr (a := w.alloc (.cells #[.int .i64 2, .int .i64 n, .slice A m c] 24)) (by repeat (first | exact Bel.rfl_ _ | apply Bel.dr | apply Bel.al)) hb2)); clear hb2))
    all_goals go_wp2
    all_goals go_ret
    all_goals exact ⟨by rw [← HT.out]; rfl, hbW.out⟩
  by_cases k3 : k = 3
  · subst k3
    go_enter Tryd.func37, Tryd.ntmps37
    go_wp2
    go_region_law (first | (go_simp; go_at_call 63; refine (HF5.out _).mono ?_; rintro r w2 ⟨rfl, hb2⟩; have hbW := Lib.hid (HB0.out.tr (Bel.tr (a := w.alloc (.cells #[.int .i64 3, .int .i64 n, .slice A m c] 24)) (by repeat (first | exact Bel.rfl_ _ | apply Bel.dr | apply Bel.al)) hb2)); clear hb2))
    all_goals go_wp2
    all_goals go_ret
    all_goals exact ⟨by rw [← HT.out]; rfl, hbW.out⟩
  rw [if_neg k1, if_neg k2, if_neg k3] at HT
  clear HF1 HF2 HF5
  by_cases k4 : k = 4
  · rw [if_pos k4] at HT
    subst k4
    go_enter Tryd.func37, Tryd.ntmps37
    go_wp2
    go_ret
    exact ⟨by rw [← HT.out]; rfl, HB0.out⟩
  rw [if_neg k4] at HT
  by_cases k5 : k = 5
  · rw [if_pos k5] at HT
    subst k5
    go_enter Tryd.func37, Tryd.ntmps37
    go_wp2
    go_quiet (fail)
    go_wp2
    go_ret
    exact ⟨by rw [← HT.out]; rfl, HB0.out.drN _⟩
  rw [if_neg k5] at HT
  obtain rfl : k = 6 := by omega
  go_enter Tryd.func37, Tryd.ntmps37
  go_wp2
  go_quiet (fail)
  go_wp2
  go_ret
  exact ⟨by rw [← HT.out]; rfl, HB0.out.drN _⟩

set_option maxRecDepth 20000 in
set_option maxHeartbeats 1000000 in
theorem holdsAt_not (n : Int) (A : Option Addr) (m c : Nat) (lv sv : Value) (l : List Ev) (t : Nat) (b0 : List Bool) (w : World) (hs : Sl evR w lv l) (hsv : Sl boolR.slice w sv [b0]) (h0 : b0.length = l.length) (ht : t < l.length) (_hl : l.length ≤ 4000) :
    Calls Tryd.prog 37 #[.agg #[.int .i64 7, .int .i64 n, .slice A m c], lv, sv, .int .i64 t] w fun r w' => r = .returned (.bool (!bg b0 t)) ∧ Bel w w' := by
  obtain ⟨B, d, rfl, -⟩ := hs
  obtain ⟨g, o, cs, A0, c0, rfl, y0, hs0⟩ := sub_cells (j := 0) hsv rfl
  rw [Nat.add_zero] at y0
  have hB0 : Bel w (w.alloc (.cells #[.int .i64 7, .int .i64 n, .slice A m c] 24)) := (Bel.rfl_ w).al _
  have HB0 := Lib.hid hB0
  obtain ⟨x0, hx0, e0⟩ := bg_get (l := b0) (i := t) (by omega)
  obtain ⟨g0, o0, rfl, z0⟩ := bool_cells hs0 hx0
  rw [e0]
  have y0 := hB0.cell y0
  have z0 := hB0.cell z0
  clear hsv hs0 hx0 e0 hB0
  generalize b0.length = n0 at *
  subst h0
  generalize l.length = len at *
  cases x0
  all_goals
    go_enter Tryd.func37, Tryd.ntmps37
    go_wp2
    go_ret
    exact ⟨rfl, HB0.out⟩

set_option maxRecDepth 20000 in
set_option maxHeartbeats 1000000 in
theorem holdsAt_and (n : Int) (A : Option Addr) (m c : Nat) (lv sv : Value) (l : List Ev) (t : Nat) (b0 b1 : List Bool) (w : World) (hs : Sl evR w lv l) (hsv : Sl boolR.slice w sv [b0, b1]) (h0 : b0.length = l.length) (h1 : b1.length = l.length) (ht : t < l.length) (_hl : l.length ≤ 4000) :
    Calls Tryd.prog 37 #[.agg #[.int .i64 8, .int .i64 n, .slice A m c], lv, sv, .int .i64 t] w fun r w' => r = .returned (.bool (bg b0 t && bg b1 t)) ∧ Bel w w' := by
  obtain ⟨B, d, rfl, -⟩ := hs
  obtain ⟨g, o, cs, A0, c0, rfl, y0, hs0⟩ := sub_cells (j := 0) hsv rfl
  rw [Nat.add_zero] at y0
  obtain ⟨g', o', cs', A1, c1, e1, y1, hs1⟩ := sub_cells (j := 1) hsv rfl
  injection e1 with e1 e2 e3
  injection e1 with e1
  injection e1 with e1 e2
  subst e1
  subst e2
  have hB0 : Bel w (w.alloc (.cells #[.int .i64 8, .int .i64 n, .slice A m c] 24)) := (Bel.rfl_ w).al _
  have HB0 := Lib.hid hB0
  obtain ⟨x0, hx0, e0⟩ := bg_get (l := b0) (i := t) (by omega)
  obtain ⟨g0, o0, rfl, z0⟩ := bool_cells hs0 hx0
  rw [e0]
  have y0 := hB0.cell y0
  have z0 := hB0.cell z0
  obtain ⟨x1, hx1, e1⟩ := bg_get (l := b1) (i := t) (by omega)
  obtain ⟨g1, o1, rfl, z1⟩ := bool_cells hs1 hx1
  rw [e1]
  have y1 := hB0.cell y1
  have z1 := hB0.cell z1
  clear hsv hs0 hx0 e0 hs1 hx1 e1 hB0
  generalize b0.length = n0 at *
  generalize b1.length = n1 at *
  subst h0
  subst h1
  generalize l.length = len at *
  cases x0 <;> cases x1
  all_goals
    go_enter Tryd.func37, Tryd.ntmps37
    go_wp2
    go_ret
    exact ⟨rfl, HB0.out⟩

set_option maxRecDepth 20000 in
set_option maxHeartbeats 1000000 in
theorem holdsAt_or (n : Int) (A : Option Addr) (m c : Nat) (lv sv : Value) (l : List Ev) (t : Nat) (b0 b1 : List Bool) (w : World) (hs : Sl evR w lv l) (hsv : Sl boolR.slice w sv [b0, b1]) (h0 : b0.length = l.length) (h1 : b1.length = l.length) (ht : t < l.length) (_hl : l.length ≤ 4000) :
    Calls Tryd.prog 37 #[.agg #[.int .i64 9, .int .i64 n, .slice A m c], lv, sv, .int .i64 t] w fun r w' => r = .returned (.bool (bg b0 t || bg b1 t)) ∧ Bel w w' := by
  obtain ⟨B, d, rfl, -⟩ := hs
  obtain ⟨g, o, cs, A0, c0, rfl, y0, hs0⟩ := sub_cells (j := 0) hsv rfl
  rw [Nat.add_zero] at y0
  obtain ⟨g', o', cs', A1, c1, e1, y1, hs1⟩ := sub_cells (j := 1) hsv rfl
  injection e1 with e1 e2 e3
  injection e1 with e1
  injection e1 with e1 e2
  subst e1
  subst e2
  have hB0 : Bel w (w.alloc (.cells #[.int .i64 9, .int .i64 n, .slice A m c] 24)) := (Bel.rfl_ w).al _
  have HB0 := Lib.hid hB0
  obtain ⟨x0, hx0, e0⟩ := bg_get (l := b0) (i := t) (by omega)
  obtain ⟨g0, o0, rfl, z0⟩ := bool_cells hs0 hx0
  rw [e0]
  have y0 := hB0.cell y0
  have z0 := hB0.cell z0
  obtain ⟨x1, hx1, e1⟩ := bg_get (l := b1) (i := t) (by omega)
  obtain ⟨g1, o1, rfl, z1⟩ := bool_cells hs1 hx1
  rw [e1]
  have y1 := hB0.cell y1
  have z1 := hB0.cell z1
  clear hsv hs0 hx0 e0 hs1 hx1 e1 hB0
  generalize b0.length = n0 at *
  generalize b1.length = n1 at *
  subst h0
  subst h1
  generalize l.length = len at *
  cases x0 <;> cases x1
  all_goals
    go_enter Tryd.func37, Tryd.ntmps37
    go_wp2
    go_ret
    exact ⟨rfl, HB0.out⟩

set_option maxRecDepth 20000 in
set_option maxHeartbeats 1000000 in
theorem holdsAt_prev (n : Int) (A : Option Addr) (m c : Nat) (lv sv : Value) (l : List Ev) (t : Nat) (b0 : List Bool) (w : World) (hs : Sl evR w lv l) (hsv : Sl boolR.slice w sv [b0]) (h0 : b0.length = l.length) (ht : t < l.length) (hl : l.length ≤ 4000) :
    Calls Tryd.prog 37 #[.agg #[.int .i64 10, .int .i64 n, .slice A m c], lv, sv, .int .i64 t] w fun r w' => r = .returned (.bool (decide (0 < t) && bg b0 (t - 1))) ∧ Bel w w' := by
  obtain ⟨B, d, rfl, -⟩ := hs
  obtain ⟨g, o, cs, A0, c0, rfl, y0, hs0⟩ := sub_cells (j := 0) hsv rfl
  rw [Nat.add_zero] at y0
  have hB0 : Bel w (w.alloc (.cells #[.int .i64 10, .int .i64 n, .slice A m c] 24)) := (Bel.rfl_ w).al _
  have HB0 := Lib.hid hB0
  cases t with
  | zero =>
    clear hsv hs0 hB0
    go_enter Tryd.func37, Tryd.ntmps37
    go_wp2
    go_ret
    exact ⟨rfl, HB0.out⟩
  | succ j =>
    have hd : (j : Int) + 1 - 1 = j := by omega
    obtain ⟨x0, hx0, e0⟩ := bg_get (l := b0) (i := j) (by omega)
    obtain ⟨g0, o0, rfl, z0⟩ := bool_cells hs0 hx0
    have e0' : bg b0 (j + 1 - 1) = x0 := by rw [Nat.add_sub_cancel]; exact e0
    rw [e0']
    have y0 := hB0.cell y0
    have z0 := hB0.cell z0
    clear hsv hs0 hx0 e0 e0' hB0
    generalize b0.length = n0 at *
    subst h0
    generalize l.length = len at *
    cases x0
    all_goals
      go_enter Tryd.func37, Tryd.ntmps37
      go_wp2
      go_ret
      exact ⟨rfl, HB0.out⟩

set_option maxRecDepth 20000 in
set_option maxHeartbeats 1000000 in
theorem holdsAt_soon (n : Int) (A : Option Addr) (m c : Nat) (lv sv : Value) (l : List Ev) (t : Nat) (b0 : List Bool) (w : World) (hs : Sl evR w lv l) (hsv : Sl boolR.slice w sv [b0]) (h0 : b0.length = l.length) (ht : t < l.length) (hl : l.length ≤ 4000) (hn : 0 ≤ n ∧ n ≤ 4000) :
    Calls Tryd.prog 37 #[.agg #[.int .i64 14, .int .i64 n, .slice A m c], lv, sv, .int .i64 t] w fun r w' => r = .returned (.bool (soonAt b0 n l.length t)) ∧ Bel w w' := by
  obtain ⟨B, d, rfl, -⟩ := hs
  obtain ⟨g, o, cs, A0, c0, rfl, y0, hs0⟩ := sub_cells (j := 0) hsv rfl
  rw [Nat.add_zero] at y0

  have hB0 : Bel w (w.alloc (.cells #[.int .i64 14, .int .i64 n, .slice A m c] 24)) := (Bel.rfl_ w).al _
  have y0 := hB0.cell y0
  have hq1 : (w.alloc (.cells #[.int .i64 14, .int .i64 n, .slice A m c] 24)).cell? ⟨w.heap.size, 1, none⟩ = some (.int .i64 n) := (Blk.new w 24 #[.int .i64 14, .int .i64 n, .slice A m c]).cell rfl
  have HB0 := Lib.hid hB0
  have HS0 := Lib.hid hs0
  have H0 := Lib.hid h0
  clear hsv hs0 hB0
  rw [h0] at y0
  generalize hlen : l.length = len at *
  clear h0
  go_enter Tryd.func37, Tryd.ntmps37
  go_wp2
  go_loopw [9] (fun i wr => ∃ u : Nat, i = .int .i64 u ∧ t ≤ u ∧ u ≤ len ∧ Hid (∀ v, t ≤ v → v < u → bg b0 v = false) ∧ wr = w.alloc (.cells #[.int .i64 14, .int .i64 n, .slice A m c] 24)) (fun i _ => len - (intOf i).toNat)
  case atStart => exact ⟨t, rfl, Nat.le_refl _, by omega, Lib.hid (fun v h1 h2 => by omega), rfl⟩
  case round =>
    obtain ⟨u, rfl, htu, hu, HV, rfl⟩ := hrel
    by_cases hlt : u < len
    · by_cases hun : (u : Int) - t ≤ n
      · obtain ⟨x0, hx0, e0⟩ := bg_get (l := b0) (i := u) (by rw [H0.out]; exact hlt)
        obtain ⟨g0, o0, rfl, z0⟩ := bool_cells HS0.out hx0
        have z0 := HB0.out.cell z0
        clear hx0
        cases x0 with
        | true =>
          have HT : Hid (soonAt b0 n len t = true) := Lib.hid (soonAt_true htu hlt hun e0)
          clear e0
          go_wp2
          go_ret
          exact ⟨by rw [HT.out]; rfl, HB0.out⟩
        | false =>
          have HV' : Hid (∀ v, t ≤ v → v < u + 1 → bg b0 v = false) := Lib.hid (fun v h1 h2 => by rcases Nat.lt_or_ge v u with h | h; exact HV.out v h1 h; rw [show v = u by omega]; exact e0)
          clear e0
          go_wp2
          go_roundw
          case rel => exact ⟨u + 1, by go_num, by omega, by omega, HV', trivial⟩
          case measure => simp [intOf]; omega
      · have HT : Hid (soonAt b0 n len t = false) := Lib.hid (soonAt_false htu HV.out (.inr (by omega)))
        go_wp2
        go_ret
        exact ⟨by rw [HT.out]; rfl, HB0.out⟩
    · have HT : Hid (soonAt b0 n len t = false) := Lib.hid (soonAt_false htu HV.out (.inl (by omega)))
      go_wp2
      go_ret
      exact ⟨by rw [HT.out]; rfl, HB0.out⟩

set_option maxRecDepth 20000 in
set_option maxHeartbeats 1000000 in
theorem holdsAt_once (n : Int) (A : Option Addr) (m c : Nat) (lv sv : Value) (l : List Ev) (t : Nat) (b0 : List Bool) (w : World) (hs : Sl evR w lv l) (hsv : Sl boolR.slice w sv [b0]) (h0 : b0.length = l.length) (ht : t < l.length) (hl : l.length ≤ 4000) :
    Calls Tryd.prog 37 #[.agg #[.int .i64 11, .int .i64 n, .slice A m c], lv, sv, .int .i64 t] w fun r w' => r = .returned (.bool (fw (fun i was => was || bg b0 i) false (t + 1))) ∧ Bel w w' := by
  obtain ⟨B, d, rfl, -⟩ := hs
  obtain ⟨g, o, cs, A0, c0, rfl, y0, hs0⟩ := sub_cells (j := 0) hsv rfl
  rw [Nat.add_zero] at y0

  have hB0 : Bel w (w.alloc (.cells #[.int .i64 11, .int .i64 n, .slice A m c] 24)) := (Bel.rfl_ w).al _
  have y0 := hB0.cell y0
  have hq0 : (w.alloc (.cells #[.int .i64 11, .int .i64 n, .slice A m c] 24)).cell? ⟨w.heap.size, 0, none⟩ = some (.int .i64 11) := (Blk.new w 24 #[.int .i64 11, .int .i64 n, .slice A m c]).cell rfl
  have HB0 := Lib.hid hB0
  have HS0 := Lib.hid hs0
  have H0 := Lib.hid h0
  clear hsv hs0 hB0
  rw [h0] at y0
  generalize hlen : l.length = len at *
  clear h0
  have HFW : Hid (∀ u, fw (fun i was => was || bg b0 i) false (u + 1) = (fun (i : Nat) (was : Bool) => was || bg b0 i) u (fw (fun i was => was || bg b0 i) false u)) := Lib.hid fun u => rfl
  have HF0 : Hid (fw (fun i was => was || bg b0 i) false 0 = false) := Lib.hid rfl
  generalize fw (fun i was => was || bg b0 i) false = f at *
  go_enter Tryd.func37, Tryd.ntmps37
  go_wp2
  go_loopw [10] (fun i wr => ∃ u : Nat, i = .int .i64 ((u : Int) - 1) ∧ u ≤ t + 1 ∧ Hid (f (t + 1) = f u) ∧ wr = w.alloc (.cells #[.int .i64 11, .int .i64 n, .slice A m c] 24)) (fun i _ => (intOf i + 1).toNat)
  case atStart => exact ⟨t + 1, by simp, Nat.le_refl _, Lib.hid rfl, rfl⟩
  case round =>
    obtain ⟨u, rfl, hu, HV, rfl⟩ := hrel
    cases u with
    | zero =>
      have HT : Hid (f (t + 1) = false) := Lib.hid (by rw [HV.out, HF0.out])
      go_wp2
      go_ret
      exact ⟨by rw [HT.out]; rfl, HB0.out⟩
    | succ v =>
      have hvi : ((v + 1 : Nat) : Int) - 1 = v := by omega
      rw [hvi]
      have HST := Lib.hid (HFW.out v)
      obtain ⟨x0, hx0, e0⟩ := bg_get (l := b0) (i := v) (by rw [H0.out]; omega)
      obtain ⟨g0, o0, rfl, z0⟩ := bool_cells HS0.out hx0
      have z0 := HB0.out.cell z0
      have hvl : v < len := by omega
      clear hx0
      cases x0 with
      | true =>
        have HT : Hid (f (t + 1) = true) := Lib.hid (by rw [HV.out, HST.out]; simp [e0])
        go_wp2
        go_ret
        exact ⟨by rw [HT.out]; rfl, HB0.out⟩
      | false =>
        have HT : Hid (f (t + 1) = f v) := Lib.hid (by rw [HV.out, HST.out]; simp [e0])
        go_wp2
        go_roundw
        case rel => exact ⟨v, by go_num, by omega, HT, trivial⟩
        case measure => simp [intOf]

set_option maxRecDepth 20000 in
set_option maxHeartbeats 1000000 in
theorem holdsAt_all (n : Int) (A : Option Addr) (m c : Nat) (lv sv : Value) (l : List Ev) (t : Nat) (b0 : List Bool) (w : World) (hs : Sl evR w lv l) (hsv : Sl boolR.slice w sv [b0]) (h0 : b0.length = l.length) (ht : t < l.length) (hl : l.length ≤ 4000) :
    Calls Tryd.prog 37 #[.agg #[.int .i64 12, .int .i64 n, .slice A m c], lv, sv, .int .i64 t] w fun r w' => r = .returned (.bool (fw (fun i was => was && bg b0 i) true (t + 1))) ∧ Bel w w' := by
  obtain ⟨B, d, rfl, -⟩ := hs
  obtain ⟨g, o, cs, A0, c0, rfl, y0, hs0⟩ := sub_cells (j := 0) hsv rfl
  rw [Nat.add_zero] at y0

  have hB0 : Bel w (w.alloc (.cells #[.int .i64 12, .int .i64 n, .slice A m c] 24)) := (Bel.rfl_ w).al _
  have y0 := hB0.cell y0
  have hq0 : (w.alloc (.cells #[.int .i64 12, .int .i64 n, .slice A m c] 24)).cell? ⟨w.heap.size, 0, none⟩ = some (.int .i64 12) := (Blk.new w 24 #[.int .i64 12, .int .i64 n, .slice A m c]).cell rfl
  have HB0 := Lib.hid hB0
  have HS0 := Lib.hid hs0
  have H0 := Lib.hid h0
  clear hsv hs0 hB0
  rw [h0] at y0
  generalize hlen : l.length = len at *
  clear h0
  have HFW : Hid (∀ u, fw (fun i was => was && bg b0 i) true (u + 1) = (fun (i : Nat) (was : Bool) => was && bg b0 i) u (fw (fun i was => was && bg b0 i) true u)) := Lib.hid fun u => rfl
  have HF0 : Hid (fw (fun i was => was && bg b0 i) true 0 = true) := Lib.hid rfl
  generalize fw (fun i was => was && bg b0 i) true = f at *
  go_enter Tryd.func37, Tryd.ntmps37
  go_wp2
  go_loopw [10] (fun i wr => ∃ u : Nat, i = .int .i64 ((u : Int) - 1) ∧ u ≤ t + 1 ∧ Hid (f (t + 1) = f u) ∧ wr = w.alloc (.cells #[.int .i64 12, .int .i64 n, .slice A m c] 24)) (fun i _ => (intOf i + 1).toNat)
  case atStart => exact ⟨t + 1, by simp, Nat.le_refl _, Lib.hid rfl, rfl⟩
  case round =>
    obtain ⟨u, rfl, hu, HV, rfl⟩ := hrel
    cases u with
    | zero =>
      have HT : Hid (f (t + 1) = true) := Lib.hid (by rw [HV.out, HF0.out])
      go_wp2
      go_ret
      exact ⟨by rw [HT.out]; rfl, HB0.out⟩
    | succ v =>
      have hvi : ((v + 1 : Nat) : Int) - 1 = v := by omega
      rw [hvi]
      have HST := Lib.hid (HFW.out v)
      obtain ⟨x0, hx0, e0⟩ := bg_get (l := b0) (i := v) (by rw [H0.out]; omega)
      obtain ⟨g0, o0, rfl, z0⟩ := bool_cells HS0.out hx0
      have z0 := HB0.out.cell z0
      have hvl : v < len := by omega
      clear hx0
      cases x0 with
      | true =>
        have HT : Hid (f (t + 1) = f v) := Lib.hid (by rw [HV.out, HST.out]; simp [e0])
        go_wp2
        go_roundw
        case rel => exact ⟨v, by go_num, by omega, HT, trivial⟩
        case measure => simp [intOf]
      | false =>
        have HT : Hid (f (t + 1) = false) := Lib.hid (by rw [HV.out, HST.out]; simp [e0])
        go_wp2
        go_ret
        exact ⟨by rw [HT.out]; rfl, HB0.out⟩

set_option maxRecDepth 20000 in
set_option maxHeartbeats 1000000 in
theorem holdsAt_since (n : Int) (A : Option Addr) (m c : Nat) (lv sv : Value) (l : List Ev) (t : Nat) (b0 b1 : List Bool) (w : World) (hs : Sl evR w lv l) (hsv : Sl boolR.slice w sv [b0, b1]) (h0 : b0.length = l.length) (h1 : b1.length = l.length) (ht : t < l.length) (hl : l.length ≤ 4000) :
    Calls Tryd.prog 37 #[.agg #[.int .i64 13, .int .i64 n, .slice A m c], lv, sv, .int .i64 t] w fun r w' => r = .returned (.bool (fw (fun i was => bg b1 i || (was && bg b0 i)) false (t + 1))) ∧ Bel w w' := by
  obtain ⟨B, d, rfl, -⟩ := hs
  obtain ⟨g, o, cs, A0, c0, rfl, y0, hs0⟩ := sub_cells (j := 0) hsv rfl
  rw [Nat.add_zero] at y0
  obtain ⟨g', o', cs', A1, c1, e1, y1, hs1⟩ := sub_cells (j := 1) hsv rfl
  injection e1 with e1 e2 e3
  injection e1 with e1
  injection e1 with e1 e2
  subst e1
  subst e2

  have hB0 : Bel w (w.alloc (.cells #[.int .i64 13, .int .i64 n, .slice A m c] 24)) := (Bel.rfl_ w).al _
  have y0 := hB0.cell y0
  have y1 := hB0.cell y1
  have hq0 : (w.alloc (.cells #[.int .i64 13, .int .i64 n, .slice A m c] 24)).cell? ⟨w.heap.size, 0, none⟩ = some (.int .i64 13) := (Blk.new w 24 #[.int .i64 13, .int .i64 n, .slice A m c]).cell rfl
  have HB0 := Lib.hid hB0
  have HS0 := Lib.hid hs0
  have HS1 := Lib.hid hs1
  have H0 := Lib.hid h0
  have H1 := Lib.hid h1
  clear hsv hs0 hs1 hB0
  rw [h0] at y0
  rw [h1] at y1
  generalize hlen : l.length = len at *
  clear h0 h1
  have HFW : Hid (∀ u, fw (fun i was => bg b1 i || (was && bg b0 i)) false (u + 1) = (fun (i : Nat) (was : Bool) => bg b1 i || (was && bg b0 i)) u (fw (fun i was => bg b1 i || (was && bg b0 i)) false u)) := Lib.hid fun u => rfl
  have HF0 : Hid (fw (fun i was => bg b1 i || (was && bg b0 i)) false 0 = false) := Lib.hid rfl
  generalize fw (fun i was => bg b1 i || (was && bg b0 i)) false = f at *
  go_enter Tryd.func37, Tryd.ntmps37
  go_wp2
  go_loopw [10] (fun i wr => ∃ u : Nat, i = .int .i64 ((u : Int) - 1) ∧ u ≤ t + 1 ∧ Hid (f (t + 1) = f u) ∧ wr = w.alloc (.cells #[.int .i64 13, .int .i64 n, .slice A m c] 24)) (fun i _ => (intOf i + 1).toNat)
  case atStart => exact ⟨t + 1, by simp, Nat.le_refl _, Lib.hid rfl, rfl⟩
  case round =>
    obtain ⟨u, rfl, hu, HV, rfl⟩ := hrel
    cases u with
    | zero =>
      have HT : Hid (f (t + 1) = false) := Lib.hid (by rw [HV.out, HF0.out])
      go_wp2
      go_ret
      exact ⟨by rw [HT.out]; rfl, HB0.out⟩
    | succ v =>
      have hvi : ((v + 1 : Nat) : Int) - 1 = v := by omega
      rw [hvi]
      have HST := Lib.hid (HFW.out v)
      obtain ⟨x0, hx0, e0⟩ := bg_get (l := b0) (i := v) (by rw [H0.out]; omega)
      obtain ⟨g0, o0, rfl, z0⟩ := bool_cells HS0.out hx0
      have z0 := HB0.out.cell z0
      obtain ⟨x1, hx1, e1⟩ := bg_get (l := b1) (i := v) (by rw [H1.out]; omega)
      obtain ⟨g1, o1, rfl, z1⟩ := bool_cells HS1.out hx1
      have z1 := HB0.out.cell z1
      have hvl : v < len := by omega
      clear hx0 hx1
      cases x1 with
      | true =>
        have HT : Hid (f (t + 1) = true) := Lib.hid (by rw [HV.out, HST.out]; simp [e0, e1])
        go_wp2
        go_ret
        exact ⟨by rw [HT.out]; rfl, HB0.out⟩
      | false =>
        cases x0 with
        | true =>
          have HT : Hid (f (t + 1) = f v) := Lib.hid (by rw [HV.out, HST.out]; simp [e0, e1])
          go_wp2
          go_roundw
          case rel => exact ⟨v, by go_num, by omega, HT, trivial⟩
          case measure => simp [intOf]
        | false =>
          have HT : Hid (f (t + 1) = false) := Lib.hid (by rw [HV.out, HST.out]; simp [e0, e1])
          go_wp2
          go_ret
          exact ⟨by rw [HT.out]; rfl, HB0.out⟩

end Go.Proofs.YtegknpffiaeohaaDoor
