/- What is kept of what was written: walked. Each lemma states its own conditions. -/
import Derived.Test.YtkojeofegoljpaaDskG
namespace Go.Proofs.Ytkojeofegoljpaa
open Go.RowKit

/-- what is kept, of what was written that of which f says so -/
def crs (f : Nat → Bool) : Nat → List Wr → List ByteArray → List ByteArray
  | _, [], ks => ks
  | i, x :: xs, ks => crs f (i + 1) xs (if f i = true then ks.set x.sector.toNat x.bytes else ks)
theorem crs_drop {f : Nat → Bool} {ws : List Wr} {k : Nat} {x : Wr} {ks : List ByteArray} (hx : ws[k]? = some x) : crs f k (ws.drop k) ks = crs f (k + 1) (ws.drop (k + 1)) (if f k = true then ks.set x.sector.toNat x.bytes else ks) := by
  obtain ⟨hl, rfl⟩ := List.getElem?_eq_some_iff.1 hx
  rw [List.drop_eq_getElem_cons hl, crs]
theorem crs_end {f : Nat → Bool} {ws : List Wr} {k : Nat} {ks : List ByteArray} (h : ws.length ≤ k) : crs f k (ws.drop k) ks = ks := by
  rw [List.drop_eq_nil_of_le h, crs]
/-- a cell of a row of the call's own -/
theorem own_cell {w : World} {base : Nat} {e : TypeId} {size g n cap : Nat} {xs : List Value} (h : w.ownsRow base e size (.slice (some ⟨g, 0, none⟩) n cap) n xs) {i : Nat} {u : Value} (hi : xs[i]? = some u) : w.cell? ⟨g, i, none⟩ = some u ∧ w.frozen? ⟨g, i, none⟩ = false := by
  rcases h.2 with ⟨h0, _⟩ | ⟨g', cap', cur, hv, _, hg, _, _, _, ht⟩
  · cases h0
  · injection hv with hv
    injection hv with hv
    injection hv with hv
    subst hv
    refine ⟨?_, frozen_of_row w g i cur e hg⟩
    rw [cell_of_row w g i cur e (0, 0) hg]
    rw [← ht, List.getElem?_take] at hi
    split at hi
    · simpa using hi
    · cases hi
theorem allTrue_any (i : Nat) (w : World) : Calls Try.prog 41 #[.int .i64 i] w fun r w' => r = .returned (.bool true) ∧ w' = w := by
  go_enter Try.func41, Try.ntmps41
  go_wp2
  go_ret
  exact ⟨rfl, rfl⟩
/-- whether so many are told to be kept -/
def kb (l : List Bool) (i : Nat) : Bool := l[i]?.getD false
theorem kept_any (i : Nat) (K : Nat) (v : Value) (l : List Bool) (w : World) (hK : w.cell? ⟨K, 0, none⟩ = some v) (hs : Sl boolR w v l) (hl : l.length ≤ 140737488351232) (hi : i ≤ 4000) :
    Calls Try.prog 42 #[.int .i64 i, .pointer (some ⟨K, 0, none⟩)] w fun r w' => r = .returned (.bool (kb l i)) ∧ w' = w := by
  obtain ⟨A, c, rfl, hc, hm, hA⟩ := hs
  by_cases hlt : i < l.length
  · obtain ⟨x, hx⟩ : ∃ x, l[i]? = some x := ⟨_, List.getElem?_eq_getElem hlt⟩
    obtain ⟨b, o, rfl, hcs⟩ := hA (by omega)
    have z0 := boolR.cell hcs hx
    have e : kb l i = x := by rw [kb, hx]; rfl
    rw [e]
    clear hcs hx hA hc hm e
    cases x
    all_goals
      go_enter Try.func42, Try.ntmps42
      go_wp2
      go_ret
      exact ⟨rfl, rfl⟩
  · have e : kb l i = false := by rw [kb, List.getElem?_eq_none (by omega)]; rfl
    rw [e]
    clear hA hc hm e
    go_enter Try.func42, Try.ntmps42
    go_wp2
    go_ret
    exact ⟨rfl, rfl⟩

set_option maxRecDepth 20000 in
set_option maxHeartbeats 1000000 in
theorem keep0_any (d : Dk) (val : Value) (w : World) (h : DkV w d val) (hz : d.err = 0) :
    Calls Try.prog 40 #[val, .func (.func 41) #[] #[]] w fun r w' => ∃ val', r = .returned val' ∧ DkV w' ⟨crs (fun _ => true) 0 d.written d.kept, []⟩ val' ∧ Bel w w' := by
  obtain ⟨⟨hk1, hk6⟩, _, hw6, hws⟩ := Dk.err_zero hz
  obtain ⟨A1, c1, A2, c2, rfl, h1, h2⟩ := h
  have HC1 := Lib.hid (fun W (hb : Bel w W) => cloneS_any _ d.kept W (h1.keep hb) hk6)
  have H2 := Lib.hid h2.at_
  have HWS := Lib.hid (fun x hx => (hws x hx).1)
  have HFN : Hid (∀ (W : World) (i : Nat), Bel w W → i ≤ 4000 → Calls Try.prog 41 #[.int .i64 i] W fun r w' => r = .returned (.bool ((fun _ => true) i)) ∧ w' = W) := Lib.hid (fun W i _ _ => allTrue_any i W)
  clear h1 h2 hz hws
  generalize d.kept = ks at *
  generalize d.written = ws at *
  generalize (fun _ => true) = f at *
  have hr : Try.f40.results = #[.cell 4 25] := rfl
  go_enter Try.func40, Try.ntmps40
  go_wp2_with fail
  have hW0 : Bel w ((w.alloc (.cells #[.slice A1 ks.length c1, .slice A2 ws.length c2] 25)).alloc (.cells #[.slice none 0 0, .slice none 0 0] 25)) := ((Bel.rfl_ w).al _).al _
  have hQ := (Blk.new w 25 #[.slice A1 ks.length c1, .slice A2 ws.length c2]).keep ((Bel.rfl_ _).al (.cells #[.slice none 0 0, .slice none 0 0] 25))
  have hR := Blk.new (w.alloc (.cells #[.slice A1 ks.length c1, .slice A2 ws.length c2] 25)) 25 #[.slice none 0 0, .slice none 0 0]
  rw [World.size_alloc] at hR
  refine (HC1.out _ hW0).mono ?_
  rintro r w1 ⟨v1, rfl, ho1, hb1⟩
  have hsz : ((w.alloc (.cells #[.slice A1 ks.length c1, .slice A2 ws.length c2] 25)).alloc (.cells #[.slice none 0 0, .slice none 0 0] 25)).heap.size = w.heap.size + 2 := by simp
  rw [hsz] at ho1
  have HQ1 := Lib.hid (hQ.keep hb1)
  have HR1 := Lib.hid (hR.keep hb1)
  have HB1 := Lib.hid (hW0.tr hb1)
  have hsz1 : w.heap.size + 2 ≤ w1.heap.size := by have := hb1.size; rw [hsz] at this; exact this
  have HSZ1 := Lib.hid hsz1
  obtain ⟨m, hm⟩ : ∃ m, ks.length = m + 1 := ⟨ks.length - 1, by omega⟩
  have ho1' := ho1
  rw [hm] at ho1'
  obtain ⟨g, cap, rfl⟩ := ownsRow_succ ho1'
  rw [← hm] at ho1
  have HO1 := Lib.hid ho1
  have q0 : w1.cell? ⟨w.heap.size, 0, none⟩ = some (.slice A1 ks.length c1) := HQ1.out.cell (i := 0) rfl
  have q1 : w1.cell? ⟨w.heap.size, 1, none⟩ = some (.slice A2 ws.length c2) := HQ1.out.cell (i := 1) rfl
  have HM := Lib.hid hm
  rw [← hm]
  clear hW0 hQ hR hb1 hsz ho1 ho1' HC1 hsz1 hm
  go_wp2
  go_loopw [14] (fun i wr => ∃ (k : Nat) (cur : List ByteArray), i = .int .i64 k ∧ k ≤ ws.length ∧ Hid (cur.length = ks.length) ∧ Hid (crs f k (ws.drop k) cur = crs f 0 ws ks) ∧
    Hid (wr.ownsRow (w.heap.size + 2) 9 1 (.slice (some ⟨g, 0, none⟩) ks.length cap) ks.length (cur.map Value.string)) ∧ Hid (Below (w.heap.size + 2) w1 wr)) (fun i _ => ws.length - (intOf i).toNat)
  case atStart => exact ⟨0, ks, rfl, by omega, rfl, by simp [Hid], HO1, Below.refl _ _⟩
  case round =>
    obtain ⟨k, cur, rfl, hk, HCL, HCR, HO, HB⟩ := hrel
    have HBW : Hid (Bel w wr) := Lib.hid (Below.trans HB1.out (Below.mono HB.out (by omega)))
    have hr0 := (HB.out.block (w.heap.size + 1) (by omega)).trans HR1.out
    have HR := Lib.hid (show Blk wr (w.heap.size + 1) 25 #[.slice none 0 0, .slice none 0 0] from hr0)
    clear hr0
    by_cases hlt : k < ws.length
    · obtain ⟨x, hx⟩ : ∃ s, ws[k]? = some s := ⟨_, List.getElem?_eq_getElem hlt⟩
      obtain ⟨b, o, rfl, hA⟩ := H2.out (by omega)
      obtain ⟨y0, y1⟩ := wrR.cells hA hx
      have y0 := HBW.out.cell y0
      have y1 := HBW.out.cell y1
      obtain ⟨hx0, hx1⟩ := HWS.out x (List.mem_of_getElem? hx)
      have HST := Lib.hid (HCR.out ▸ (crs_drop (f := f) (ks := cur) hx).symm)
      clear hA hx
      generalize x.bytes = xb at *
      generalize x.sector = xs at *
      obtain ⟨j, rfl⟩ : ∃ j : Nat, xs = j := ⟨xs.toNat, by omega⟩
      rw [Int.toNat_natCast] at HST
      have hj : j < ks.length := by omega
      obtain ⟨old, hold⟩ : ∃ s, cur[j]? = some s := ⟨_, List.getElem?_eq_getElem (by rw [HCL.out]; exact hj)⟩
      have hoc := own_cell (HO.out.alloc (.cells #[.int .i64 j, .string xb] 71)) (i := j) (u := .string old) (by rw [List.getElem?_map, hold]; rfl)
      obtain ⟨hc0, hc1⟩ := hoc
      have hg2 := (HO.out.lt g rfl).1
      have hO2 := HO.out.alloc (.cells #[.int .i64 j, .string xb] 71)
      have hB2 := Below.alloc HB.out (Nat.le_trans HSZ1.out HB.out.size) (.cells #[.int .i64 j, .string xb] 71)
      have HO2 := Lib.hid hO2
      have HB2 := Lib.hid hB2
      clear hold hO2 hB2 hx0 hx1
      go_wp2_with fail
      refine (HFN.out _ k (HBW.out.al _) (by omega)).mono ?_
      rintro r w' ⟨rfl, rfl⟩
      cases hfk : f k with
      | true =>
        rw [hfk, if_pos rfl] at HST
        clear hfk
        go_wp2
        go_roundw
        case rel => exact ⟨k + 1, cur.set j xb, by go_num, by omega, Lib.hid (by rw [List.length_set]; exact HCL.out), HST, (by unfold Hid; have := (HO2.out.stored j (.string xb)).1; rw [List.map_set]; exact this), HB2.out.setCell hg2 _⟩
        case measure => simp [intOf]; omega
      | false =>
        rw [hfk, if_neg (by decide)] at HST
        clear hfk
        go_wp2
        go_roundw
        case rel => exact ⟨k + 1, cur, by go_num, by omega, HCL, HST, HO2, HB2⟩
        case measure => simp [intOf]; omega
    · have HF : Hid (crs f 0 ws ks = cur) := Lib.hid (by rw [← HCR.out, crs_end (by omega)])
      have d0 := HR.out.cell (i := 0) rfl
      have d1 := HR.out.cell (i := 1) rfl
      have e0 := HR.out.frozen 0
      have e1 := HR.out.frozen 1
      go_wp2
      have hs5 := two_set (a := .slice (some ⟨g, 0, none⟩) ks.length cap) (b := .slice none 0 0) HR.out
      have z0 := hs5.cell (i := 0) rfl
      have z1 := hs5.cell (i := 1) rfl
      have ho2 := own_aside (own_aside HO.out HR.out (by decide) 0 (.slice (some ⟨g, 0, none⟩) ks.length cap)) (HR.out.set_ 0 (.slice (some ⟨g, 0, none⟩) ks.length cap)) (by decide) 1 (.slice none 0 0)
      have hbl := (HBW.out.setCell (p := ⟨w.heap.size + 1, 0, none⟩) (by dsimp only; omega) (.slice (some ⟨g, 0, none⟩) ks.length cap)).setCell (p := ⟨w.heap.size + 1, 1, none⟩) (by dsimp only; omega) (.slice none 0 0)
      refine bodyPost_ret (v := .agg #[.slice (some ⟨g, 0, none⟩) ks.length cap, .slice none 0 0]) (by simp [results, z0, z1, go_sem]) rfl ⟨_, rfl, ⟨some ⟨g, 0, none⟩, cap, none, 0, ?_, ?_, Sl.nil_ _ _⟩, hbl⟩
      · rw [HF.out, HCL.out]; rfl
      · rw [HF.out]
        have := Sl.own_str ho2 HCL.out.symm
        rw [HCL.out]
        exact this

set_option maxRecDepth 20000 in
set_option maxHeartbeats 1000000 in
theorem keep1_any (d : Dk) (val : Value) (K : Nat) (kv : Value) (l : List Bool) (w : World) (h : DkV w d val) (hz : d.err = 0) (hK : w.cell? ⟨K, 0, none⟩ = some kv) (hks : Sl boolR w kv l) (hkl : l.length ≤ 140737488351232) :
    Calls Try.prog 40 #[val, .func (.func 42) #[] #[.pointer (some ⟨K, 0, none⟩)]] w fun r w' => ∃ val', r = .returned val' ∧ DkV w' ⟨crs (kb l) 0 d.written d.kept, []⟩ val' ∧ Bel w w' := by
  obtain ⟨⟨hk1, hk6⟩, _, hw6, hws⟩ := Dk.err_zero hz
  obtain ⟨A1, c1, A2, c2, rfl, h1, h2⟩ := h
  have HC1 := Lib.hid (fun W (hb : Bel w W) => cloneS_any _ d.kept W (h1.keep hb) hk6)
  have H2 := Lib.hid h2.at_
  have HWS := Lib.hid (fun x hx => (hws x hx).1)
  have HFN : Hid (∀ (W : World) (i : Nat), Bel w W → i ≤ 4000 → Calls Try.prog 42 #[.int .i64 i, .pointer (some ⟨K, 0, none⟩)] W fun r w' => r = .returned (.bool (kb l i)) ∧ w' = W) := Lib.hid (fun W i hb hi => kept_any i K kv l W (hb.cell hK) (hks.keep hb) hkl hi)
  clear hK hks hkl
  clear h1 h2 hz hws
  generalize d.kept = ks at *
  generalize d.written = ws at *
  generalize (kb l) = f at *
  have hr : Try.f40.results = #[.cell 4 25] := rfl
  go_enter Try.func40, Try.ntmps40
  go_wp2_with fail
  have hW0 : Bel w ((w.alloc (.cells #[.slice A1 ks.length c1, .slice A2 ws.length c2] 25)).alloc (.cells #[.slice none 0 0, .slice none 0 0] 25)) := ((Bel.rfl_ w).al _).al _
  have hQ := (Blk.new w 25 #[.slice A1 ks.length c1, .slice A2 ws.length c2]).keep ((Bel.rfl_ _).al (.cells #[.slice none 0 0, .slice none 0 0] 25))
  have hR := Blk.new (w.alloc (.cells #[.slice A1 ks.length c1, .slice A2 ws.length c2] 25)) 25 #[.slice none 0 0, .slice none 0 0]
  rw [World.size_alloc] at hR
  refine (HC1.out _ hW0).mono ?_
  rintro r w1 ⟨v1, rfl, ho1, hb1⟩
  have hsz : ((w.alloc (.cells #[.slice A1 ks.length c1, .slice A2 ws.length c2] 25)).alloc (.cells #[.slice none 0 0, .slice none 0 0] 25)).heap.size = w.heap.size + 2 := by simp
  rw [hsz] at ho1
  have HQ1 := Lib.hid (hQ.keep hb1)
  have HR1 := Lib.hid (hR.keep hb1)
  have HB1 := Lib.hid (hW0.tr hb1)
  have hsz1 : w.heap.size + 2 ≤ w1.heap.size := by have := hb1.size; rw [hsz] at this; exact this
  have HSZ1 := Lib.hid hsz1
  obtain ⟨m, hm⟩ : ∃ m, ks.length = m + 1 := ⟨ks.length - 1, by omega⟩
  have ho1' := ho1
  rw [hm] at ho1'
  obtain ⟨g, cap, rfl⟩ := ownsRow_succ ho1'
  rw [← hm] at ho1
  have HO1 := Lib.hid ho1
  have q0 : w1.cell? ⟨w.heap.size, 0, none⟩ = some (.slice A1 ks.length c1) := HQ1.out.cell (i := 0) rfl
  have q1 : w1.cell? ⟨w.heap.size, 1, none⟩ = some (.slice A2 ws.length c2) := HQ1.out.cell (i := 1) rfl
  have HM := Lib.hid hm
  rw [← hm]
  clear hW0 hQ hR hb1 hsz ho1 ho1' HC1 hsz1 hm
  go_wp2
  go_loopw [14] (fun i wr => ∃ (k : Nat) (cur : List ByteArray), i = .int .i64 k ∧ k ≤ ws.length ∧ Hid (cur.length = ks.length) ∧ Hid (crs f k (ws.drop k) cur = crs f 0 ws ks) ∧
    Hid (wr.ownsRow (w.heap.size + 2) 9 1 (.slice (some ⟨g, 0, none⟩) ks.length cap) ks.length (cur.map Value.string)) ∧ Hid (Below (w.heap.size + 2) w1 wr)) (fun i _ => ws.length - (intOf i).toNat)
  case atStart => exact ⟨0, ks, rfl, by omega, rfl, by simp [Hid], HO1, Below.refl _ _⟩
  case round =>
    obtain ⟨k, cur, rfl, hk, HCL, HCR, HO, HB⟩ := hrel
    have HBW : Hid (Bel w wr) := Lib.hid (Below.trans HB1.out (Below.mono HB.out (by omega)))
    have hr0 := (HB.out.block (w.heap.size + 1) (by omega)).trans HR1.out
    have HR := Lib.hid (show Blk wr (w.heap.size + 1) 25 #[.slice none 0 0, .slice none 0 0] from hr0)
    clear hr0
    by_cases hlt : k < ws.length
    · obtain ⟨x, hx⟩ : ∃ s, ws[k]? = some s := ⟨_, List.getElem?_eq_getElem hlt⟩
      obtain ⟨b, o, rfl, hA⟩ := H2.out (by omega)
      obtain ⟨y0, y1⟩ := wrR.cells hA hx
      have y0 := HBW.out.cell y0
      have y1 := HBW.out.cell y1
      obtain ⟨hx0, hx1⟩ := HWS.out x (List.mem_of_getElem? hx)
      have HST := Lib.hid (HCR.out ▸ (crs_drop (f := f) (ks := cur) hx).symm)
      clear hA hx
      generalize x.bytes = xb at *
      generalize x.sector = xs at *
      obtain ⟨j, rfl⟩ : ∃ j : Nat, xs = j := ⟨xs.toNat, by omega⟩
      rw [Int.toNat_natCast] at HST
      have hj : j < ks.length := by omega
      obtain ⟨old, hold⟩ : ∃ s, cur[j]? = some s := ⟨_, List.getElem?_eq_getElem (by rw [HCL.out]; exact hj)⟩
      have hoc := own_cell (HO.out.alloc (.cells #[.int .i64 j, .string xb] 71)) (i := j) (u := .string old) (by rw [List.getElem?_map, hold]; rfl)
      obtain ⟨hc0, hc1⟩ := hoc
      have hg2 := (HO.out.lt g rfl).1
      have hO2 := HO.out.alloc (.cells #[.int .i64 j, .string xb] 71)
      have hB2 := Below.alloc HB.out (Nat.le_trans HSZ1.out HB.out.size) (.cells #[.int .i64 j, .string xb] 71)
      have HO2 := Lib.hid hO2
      have HB2 := Lib.hid hB2
      clear hold hO2 hB2 hx0 hx1
      go_wp2_with fail
      refine (HFN.out _ k (HBW.out.al _) (by omega)).mono ?_
      rintro r w' ⟨rfl, rfl⟩
      cases hfk : f k with
      | true =>
        rw [hfk, if_pos rfl] at HST
        clear hfk
        go_wp2
        go_roundw
        case rel => exact ⟨k + 1, cur.set j xb, by go_num, by omega, Lib.hid (by rw [List.length_set]; exact HCL.out), HST, (by unfold Hid; have := (HO2.out.stored j (.string xb)).1; rw [List.map_set]; exact this), HB2.out.setCell hg2 _⟩
        case measure => simp [intOf]; omega
      | false =>
        rw [hfk, if_neg (by decide)] at HST
        clear hfk
        go_wp2
        go_roundw
        case rel => exact ⟨k + 1, cur, by go_num, by omega, HCL, HST, HO2, HB2⟩
        case measure => simp [intOf]; omega
    · have HF : Hid (crs f 0 ws ks = cur) := Lib.hid (by rw [← HCR.out, crs_end (by omega)])
      have d0 := HR.out.cell (i := 0) rfl
      have d1 := HR.out.cell (i := 1) rfl
      have e0 := HR.out.frozen 0
      have e1 := HR.out.frozen 1
      go_wp2
      have hs5 := two_set (a := .slice (some ⟨g, 0, none⟩) ks.length cap) (b := .slice none 0 0) HR.out
      have z0 := hs5.cell (i := 0) rfl
      have z1 := hs5.cell (i := 1) rfl
      have ho2 := own_aside (own_aside HO.out HR.out (by decide) 0 (.slice (some ⟨g, 0, none⟩) ks.length cap)) (HR.out.set_ 0 (.slice (some ⟨g, 0, none⟩) ks.length cap)) (by decide) 1 (.slice none 0 0)
      have hbl := (HBW.out.setCell (p := ⟨w.heap.size + 1, 0, none⟩) (by dsimp only; omega) (.slice (some ⟨g, 0, none⟩) ks.length cap)).setCell (p := ⟨w.heap.size + 1, 1, none⟩) (by dsimp only; omega) (.slice none 0 0)
      refine bodyPost_ret (v := .agg #[.slice (some ⟨g, 0, none⟩) ks.length cap, .slice none 0 0]) (by simp [results, z0, z1, go_sem]) rfl ⟨_, rfl, ⟨some ⟨g, 0, none⟩, cap, none, 0, ?_, ?_, Sl.nil_ _ _⟩, hbl⟩
      · rw [HF.out, HCL.out]; rfl
      · rw [HF.out]
        have := Sl.own_str ho2 HCL.out.symm
        rw [HCL.out]
        exact this

end Go.Proofs.Ytkojeofegoljpaa
