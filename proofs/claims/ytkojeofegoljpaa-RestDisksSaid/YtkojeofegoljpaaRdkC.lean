/- What Flush and Crash hand back lies in rows of the call's own: walked. Rows whose cells may turn: what stays where such are spoilt; spoilDisk and spoilEvents walked. LogOpens: what a batch finds and leaves: plain law, and what Append, Open and Crash do there. Append of too many events; disked walked. Each lemma states its own conditions. -/
import Derived.Test.YtkojeofegoljpaaLogJ
import Derived.Test.YtkojeofegoljpaaLogZ
import Derived.Test.YtkojeofegoljpaaLogS
namespace Go.Proofs.Ytkojeofegoljpaa
open Go.RowKit

theorem DkO.empty (w : World) (B : Nat) : DkO w B ⟨[], []⟩ emptyD := ⟨_, _, rfl, World.ownsRow_nil _ _ _ _, World.ownsRow_nil _ _ _ _⟩
theorem DkO.two {w : World} {B : Nat} {d : Dk} {val : Value} (h : DkO w B d val) {S : Nat} {cs : Array Value} (hS : Blk w S 25 cs) (u1 u2 : Value) : DkO ((w.setCell ⟨S, 0, none⟩ u1).setCell ⟨S, 1, none⟩ u2) B d val :=
  (h.aside hS (by decide) (by decide) 0 u1).aside (hS.set_ 0 u1) (by decide) (by decide) 1 u2

set_option maxRecDepth 20000 in
set_option maxHeartbeats 1000000 in
theorem keepF_any (d : Dk) (val : Value) (w : World) (h : DkV w d val) (hz : d.err = 0) :
    Calls Try.prog 40 #[val, .func (.func 41) #[] #[]] w fun r w' => ∃ val', r = .returned val' ∧ DkO w' w.heap.size ⟨crs (fun _ => true) 0 d.written d.kept, []⟩ val' ∧ Bel w w' := by
  obtain ⟨⟨hk1, hk6⟩, _, hw6, hws⟩ := Dk.err_zero hz
  obtain ⟨A1, c1, A2, c2, rfl, h1, h2⟩ := h
  have HC1 := Lib.hid (fun W (hb : Bel w W) => cloneS_any _ d.kept W (h1.keep hb) hk6)
  have H2 := Lib.hid h2.at_
  have HWS := Lib.hid (fun x hx => (hws x hx).1)
  have HFN : Hid (∀ (W : World) (i : Nat), Bel w W → i ≤ 4000 → Calls Try.prog 41 #[.int .i64 i] W fun r w' => r = .returned (.bool ((fun _ => true) i)) ∧ w' = W) := Lib.hid (fun W i _ _ => allTrue_any i W)
  clear h1 h2 hz hws
  generalize d.kept = ks at *
  generalize d.written = ws at *
  generalize (fun _ => true) = f at *
  have hr : Try.f40.results = #[.cell 4 25] := rfl
  go_enter Try.func40, Try.ntmps40
  go_wp2_with fail
  have hW0 : Bel w ((w.alloc (.cells #[.slice A1 ks.length c1, .slice A2 ws.length c2] 25)).alloc (.cells #[.slice none 0 0, .slice none 0 0] 25)) := ((Bel.rfl_ w).al _).al _
  have hQ := (Blk.new w 25 #[.slice A1 ks.length c1, .slice A2 ws.length c2]).keep ((Bel.rfl_ _).al (.cells #[.slice none 0 0, .slice none 0 0] 25))
  have hR := Blk.new (w.alloc (.cells #[.slice A1 ks.length c1, .slice A2 ws.length c2] 25)) 25 #[.slice none 0 0, .slice none 0 0]
  rw [World.size_alloc] at hR
  refine (HC1.out _ hW0).mono ?_
  rintro r w1 ⟨v1, rfl, ho1, hb1⟩
  have hsz : ((w.alloc (.cells #[.slice A1 ks.length c1, .slice A2 ws.length c2] 25)).alloc (.cells #[.slice none 0 0, .slice none 0 0] 25)).heap.size = w.heap.size + 2 := by simp
  rw [hsz] at ho1
  have HQ1 := Lib.hid (hQ.keep hb1)
  have HR1 := Lib.hid (hR.keep hb1)
  have HB1 := Lib.hid (hW0.tr hb1)
  have hsz1 : w.heap.size + 2 ≤ w1.heap.size := by have := hb1.size; rw [hsz] at this; exact this
  have HSZ1 := Lib.hid hsz1
  obtain ⟨m, hm⟩ : ∃ m, ks.length = m + 1 := ⟨ks.length - 1, by omega⟩
  have ho1' := ho1
  rw [hm] at ho1'
  obtain ⟨g, cap, rfl⟩ := ownsRow_succ ho1'
  rw [← hm] at ho1
  have HO1 := Lib.hid ho1
  have q0 : w1.cell? ⟨w.heap.size, 0, none⟩ = some (.slice A1 ks.length c1) := HQ1.out.cell (i := 0) rfl
  have q1 : w1.cell? ⟨w.heap.size, 1, none⟩ = some (.slice A2 ws.length c2) := HQ1.out.cell (i := 1) rfl
  have HM := Lib.hid hm
  rw [← hm]
  clear hW0 hQ hR hb1 hsz ho1 ho1' HC1 hsz1 hm
  go_wp2
  go_loopw [14] (fun i wr => ∃ (k : Nat) (cur : List ByteArray), i = .int .i64 k ∧ k ≤ ws.length ∧ Hid (cur.length = ks.length) ∧ Hid (crs f k (ws.drop k) cur = crs f 0 ws ks) ∧
    Hid (wr.ownsRow (w.heap.size + 2) 9 1 (.slice (some ⟨g, 0, none⟩) ks.length cap) ks.length (cur.map Value.string)) ∧ Hid (Below (w.heap.size + 2) w1 wr)) (fun i _ => ws.length - (intOf i).toNat)
  case atStart => exact ⟨0, ks, rfl, by omega, rfl, by simp [Hid], HO1, Below.refl _ _⟩
  case round =>
    obtain ⟨k, cur, rfl, hk, HCL, HCR, HO, HB⟩ := hrel
    have HBW : Hid (Bel w wr) := Lib.hid (Below.trans HB1.out (Below.mono HB.out (by omega)))
    have hr0 := (HB.out.block (w.heap.size + 1) (by omega)).trans HR1.out
    have HR := Lib.hid (show Blk wr (w.heap.size + 1) 25 #[.slice none 0 0, .slice none 0 0] from hr0)
    clear hr0
    by_cases hlt : k < ws.length
    · obtain ⟨x, hx⟩ : ∃ s, ws[k]? = some s := ⟨_, List.getElem?_eq_getElem hlt⟩
      obtain ⟨b, o, rfl, hA⟩ := H2.out (by omega)
      obtain ⟨y0, y1⟩ := wrR.cells hA hx
      have y0 := HBW.out.cell y0
      have y1 := HBW.out.cell y1
      obtain ⟨hx0, hx1⟩ := HWS.out x (List.mem_of_getElem? hx)
      have HST := Lib.hid (HCR.out ▸ (crs_drop (f := f) (ks := cur) hx).symm)
      clear hA hx
      generalize x.bytes = xb at *
      generalize x.sector = xs at *
      obtain ⟨j, rfl⟩ : ∃ j : Nat, xs = j := ⟨xs.toNat, by omega⟩
      rw [Int.toNat_natCast] at HST
      have hj : j < ks.length := by omega
      obtain ⟨old, hold⟩ : ∃ s, cur[j]? = some s := ⟨_, List.getElem?_eq_getElem (by rw [HCL.out]; exact hj)⟩
      have hoc := own_cell (HO.out.alloc (.cells #[.int .i64 j, .string xb] 71)) (i := j) (u := .string old) (by rw [List.getElem?_map, hold]; rfl)
      obtain ⟨hc0, hc1⟩ := hoc
      have hg2 := (HO.out.lt g rfl).1
      have hO2 := HO.out.alloc (.cells #[.int .i64 j, .string xb] 71)
      have hB2 := Below.alloc HB.out (Nat.le_trans HSZ1.out HB.out.size) (.cells #[.int .i64 j, .string xb] 71)
      have HO2 := Lib.hid hO2
      have HB2 := Lib.hid hB2
      clear hold hO2 hB2 hx0 hx1
      go_wp2_with fail
      refine (HFN.out _ k (HBW.out.al _) (by omega)).mono ?_
      rintro r w' ⟨rfl, rfl⟩
      cases hfk : f k with
      | true =>
        rw [hfk, if_pos rfl] at HST
        clear hfk
        go_wp2
        go_roundw
        case rel => exact ⟨k + 1, cur.set j xb, by go_num, by omega, Lib.hid (by rw [List.length_set]; exact HCL.out), HST, (by unfold Hid; have := (HO2.out.stored j (.string xb)).1; rw [List.map_set]; exact this), HB2.out.setCell hg2 _⟩
        case measure => simp [intOf]; omega
      | false =>
        rw [hfk, if_neg (by decide)] at HST
        clear hfk
        go_wp2
        go_roundw
        case rel => exact ⟨k + 1, cur, by go_num, by omega, HCL, HST, HO2, HB2⟩
        case measure => simp [intOf]; omega
    · have HF : Hid (crs f 0 ws ks = cur) := Lib.hid (by rw [← HCR.out, crs_end (by omega)])
      have d0 := HR.out.cell (i := 0) rfl
      have d1 := HR.out.cell (i := 1) rfl
      have e0 := HR.out.frozen 0
      have e1 := HR.out.frozen 1
      go_wp2
      have hs5 := two_set (a := .slice (some ⟨g, 0, none⟩) ks.length cap) (b := .slice none 0 0) HR.out
      have z0 := hs5.cell (i := 0) rfl
      have z1 := hs5.cell (i := 1) rfl
      have ho2 := own_aside (own_aside HO.out HR.out (by decide) 0 (.slice (some ⟨g, 0, none⟩) ks.length cap)) (HR.out.set_ 0 (.slice (some ⟨g, 0, none⟩) ks.length cap)) (by decide) 1 (.slice none 0 0)
      have hbl := (HBW.out.setCell (p := ⟨w.heap.size + 1, 0, none⟩) (by dsimp only; omega) (.slice (some ⟨g, 0, none⟩) ks.length cap)).setCell (p := ⟨w.heap.size + 1, 1, none⟩) (by dsimp only; omega) (.slice none 0 0)
      refine bodyPost_ret (v := .agg #[.slice (some ⟨g, 0, none⟩) ks.length cap, .slice none 0 0]) (by simp [results, z0, z1, go_sem]) rfl ⟨_, rfl, ⟨_, _, rfl, ?_, World.ownsRow_nil _ _ _ _⟩, hbl⟩
      rw [HF.out, HCL.out]
      exact own_base ho2 (by omega)

set_option maxRecDepth 20000 in
set_option maxHeartbeats 1000000 in
theorem keepC_any (d : Dk) (val : Value) (K : Nat) (kv : Value) (l : List Bool) (w : World) (h : DkV w d val) (hz : d.err = 0) (hK : w.cell? ⟨K, 0, none⟩ = some kv) (hks : Sl boolR w kv l) (hkl : l.length ≤ 140737488351232) :
    Calls Try.prog 40 #[val, .func (.func 42) #[] #[.pointer (some ⟨K, 0, none⟩)]] w fun r w' => ∃ val', r = .returned val' ∧ DkO w' w.heap.size ⟨crs (kb l) 0 d.written d.kept, []⟩ val' ∧ Bel w w' := by
  obtain ⟨⟨hk1, hk6⟩, _, hw6, hws⟩ := Dk.err_zero hz
  obtain ⟨A1, c1, A2, c2, rfl, h1, h2⟩ := h
  have HC1 := Lib.hid (fun W (hb : Bel w W) => cloneS_any _ d.kept W (h1.keep hb) hk6)
  have H2 := Lib.hid h2.at_
  have HWS := Lib.hid (fun x hx => (hws x hx).1)
  have HFN : Hid (∀ (W : World) (i : Nat), Bel w W → i ≤ 4000 → Calls Try.prog 42 #[.int .i64 i, .pointer (some ⟨K, 0, none⟩)] W fun r w' => r = .returned (.bool (kb l i)) ∧ w' = W) := Lib.hid (fun W i hb hi => kept_any i K kv l W (hb.cell hK) (hks.keep hb) hkl hi)
  clear hK hks hkl
  clear h1 h2 hz hws
  generalize d.kept = ks at *
  generalize d.written = ws at *
  generalize (kb l) = f at *
  have hr : Try.f40.results = #[.cell 4 25] := rfl
  go_enter Try.func40, Try.ntmps40
  go_wp2_with fail
  have hW0 : Bel w ((w.alloc (.cells #[.slice A1 ks.length c1, .slice A2 ws.length c2] 25)).alloc (.cells #[.slice none 0 0, .slice none 0 0] 25)) := ((Bel.rfl_ w).al _).al _
  have hQ := (Blk.new w 25 #[.slice A1 ks.length c1, .slice A2 ws.length c2]).keep ((Bel.rfl_ _).al (.cells #[.slice none 0 0, .slice none 0 0] 25))
  have hR := Blk.new (w.alloc (.cells #[.slice A1 ks.length c1, .slice A2 ws.length c2] 25)) 25 #[.slice none 0 0, .slice none 0 0]
  rw [World.size_alloc] at hR
  refine (HC1.out _ hW0).mono ?_
  rintro r w1 ⟨v1, rfl, ho1, hb1⟩
  have hsz : ((w.alloc (.cells #[.slice A1 ks.length c1, .slice A2 ws.length c2] 25)).alloc (.cells #[.slice none 0 0, .slice none 0 0] 25)).heap.size = w.heap.size + 2 := by simp
  rw [hsz] at ho1
  have HQ1 := Lib.hid (hQ.keep hb1)
  have HR1 := Lib.hid (hR.keep hb1)
  have HB1 := Lib.hid (hW0.tr hb1)
  have hsz1 : w.heap.size + 2 ≤ w1.heap.size := by have := hb1.size; rw [hsz] at this; exact this
  have HSZ1 := Lib.hid hsz1
  obtain ⟨m, hm⟩ : ∃ m, ks.length = m + 1 := ⟨ks.length - 1, by omega⟩
  have ho1' := ho1
  rw [hm] at ho1'
  obtain ⟨g, cap, rfl⟩ := ownsRow_succ ho1'
  rw [← hm] at ho1
  have HO1 := Lib.hid ho1
  have q0 : w1.cell? ⟨w.heap.size, 0, none⟩ = some (.slice A1 ks.length c1) := HQ1.out.cell (i := 0) rfl
  have q1 : w1.cell? ⟨w.heap.size, 1, none⟩ = some (.slice A2 ws.length c2) := HQ1.out.cell (i := 1) rfl
  have HM := Lib.hid hm
  rw [← hm]
  clear hW0 hQ hR hb1 hsz ho1 ho1' HC1 hsz1 hm
  go_wp2
  go_loopw [14] (fun i wr => ∃ (k : Nat) (cur : List ByteArray), i = .int .i64 k ∧ k ≤ ws.length ∧ Hid (cur.length = ks.length) ∧ Hid (crs f k (ws.drop k) cur = crs f 0 ws ks) ∧
    Hid (wr.ownsRow (w.heap.size + 2) 9 1 (.slice (some ⟨g, 0, none⟩) ks.length cap) ks.length (cur.map Value.string)) ∧ Hid (Below (w.heap.size + 2) w1 wr)) (fun i _ => ws.length - (intOf i).toNat)
  case atStart => exact ⟨0, ks, rfl, by omega, rfl, by simp [Hid], HO1, Below.refl _ _⟩
  case round =>
    obtain ⟨k, cur, rfl, hk, HCL, HCR, HO, HB⟩ := hrel
    have HBW : Hid (Bel w wr) := Lib.hid (Below.trans HB1.out (Below.mono HB.out (by omega)))
    have hr0 := (HB.out.block (w.heap.size + 1) (by omega)).trans HR1.out
    have HR := Lib.hid (show Blk wr (w.heap.size + 1) 25 #[.slice none 0 0, .slice none 0 0] from hr0)
    clear hr0
    by_cases hlt : k < ws.length
    · obtain ⟨x, hx⟩ : ∃ s, ws[k]? = some s := ⟨_, List.getElem?_eq_getElem hlt⟩
      obtain ⟨b, o, rfl, hA⟩ := H2.out (by omega)
      obtain ⟨y0, y1⟩ := wrR.cells hA hx
      have y0 := HBW.out.cell y0
      have y1 := HBW.out.cell y1
      obtain ⟨hx0, hx1⟩ := HWS.out x (List.mem_of_getElem? hx)
      have HST := Lib.hid (HCR.out ▸ (crs_drop (f := f) (ks := cur) hx).symm)
      clear hA hx
      generalize x.bytes = xb at *
      generalize x.sector = xs at *
      obtain ⟨j, rfl⟩ : ∃ j : Nat, xs = j := ⟨xs.toNat, by omega⟩
      rw [Int.toNat_natCast] at HST
      have hj : j < ks.length := by omega
      obtain ⟨old, hold⟩ : ∃ s, cur[j]? = some s := ⟨_, List.getElem?_eq_getElem (by rw [HCL.out]; exact hj)⟩
      have hoc := own_cell (HO.out.alloc (.cells #[.int .i64 j, .string xb] 71)) (i := j) (u := .string old) (by rw [List.getElem?_map, hold]; rfl)
      obtain ⟨hc0, hc1⟩ := hoc
      have hg2 := (HO.out.lt g rfl).1
      have hO2 := HO.out.alloc (.cells #[.int .i64 j, .string xb] 71)
      have hB2 := Below.alloc HB.out (Nat.le_trans HSZ1.out HB.out.size) (.cells #[.int .i64 j, .string xb] 71)
      have HO2 := Lib.hid hO2
      have HB2 := Lib.hid hB2
      clear hold hO2 hB2 hx0 hx1
      go_wp2_with fail
      refine (HFN.out _ k (HBW.out.al _) (by omega)).mono ?_
      rintro r w' ⟨rfl, rfl⟩
      cases hfk : f k with
      | true =>
        rw [hfk, if_pos rfl] at HST
        clear hfk
        go_wp2
        go_roundw
        case rel => exact ⟨k + 1, cur.set j xb, by go_num, by omega, Lib.hid (by rw [List.length_set]; exact HCL.out), HST, (by unfold Hid; have := (HO2.out.stored j (.string xb)).1; rw [List.map_set]; exact this), HB2.out.setCell hg2 _⟩
        case measure => simp [intOf]; omega
      | false =>
        rw [hfk, if_neg (by decide)] at HST
        clear hfk
        go_wp2
        go_roundw
        case rel => exact ⟨k + 1, cur, by go_num, by omega, HCL, HST, HO2, HB2⟩
        case measure => simp [intOf]; omega
    · have HF : Hid (crs f 0 ws ks = cur) := Lib.hid (by rw [← HCR.out, crs_end (by omega)])
      have d0 := HR.out.cell (i := 0) rfl
      have d1 := HR.out.cell (i := 1) rfl
      have e0 := HR.out.frozen 0
      have e1 := HR.out.frozen 1
      go_wp2
      have hs5 := two_set (a := .slice (some ⟨g, 0, none⟩) ks.length cap) (b := .slice none 0 0) HR.out
      have z0 := hs5.cell (i := 0) rfl
      have z1 := hs5.cell (i := 1) rfl
      have ho2 := own_aside (own_aside HO.out HR.out (by decide) 0 (.slice (some ⟨g, 0, none⟩) ks.length cap)) (HR.out.set_ 0 (.slice (some ⟨g, 0, none⟩) ks.length cap)) (by decide) 1 (.slice none 0 0)
      have hbl := (HBW.out.setCell (p := ⟨w.heap.size + 1, 0, none⟩) (by dsimp only; omega) (.slice (some ⟨g, 0, none⟩) ks.length cap)).setCell (p := ⟨w.heap.size + 1, 1, none⟩) (by dsimp only; omega) (.slice none 0 0)
      refine bodyPost_ret (v := .agg #[.slice (some ⟨g, 0, none⟩) ks.length cap, .slice none 0 0]) (by simp [results, z0, z1, go_sem]) rfl ⟨_, rfl, ⟨_, _, rfl, ?_, World.ownsRow_nil _ _ _ _⟩, hbl⟩
      rw [HF.out, HCL.out]
      exact own_base ho2 (by omega)

set_option maxRecDepth 20000 in
set_option maxHeartbeats 1000000 in
theorem flushO_any (d : Dk) (val : Value) (w : World) (h : DkV w d val) (ho : d.ok) :
    Calls Try.prog 11 #[val] w fun r w' => ∃ val', r = .returned (.tuple #[val', .int .i64 d.err]) ∧ DkO w' w.heap.size d.flushed val' ∧ Bel w w' := by
  have HC := Lib.hid (fun W (hb : Bel w W) => check_any d val W (h.keep hb) ho)
  have HP := Lib.hid (fun W (hb : Bel w W) (hz : d.err = 0) => keepF_any d val W (h.keep hb) hz)
  have HU : Hid ((if d.err = 0 then ⟨crs (fun _ => true) 0 d.written d.kept, []⟩ else noDk) = d.flushed) := Lib.hid rfl
  generalize d.flushed = U at *
  generalize (⟨crs (fun _ => true) 0 d.written d.kept, []⟩ : Dk) = P at *
  obtain ⟨A1, c1, A2, c2, rfl, h1, h2⟩ := h
  clear h1 h2 ho
  generalize d.err = E at *
  generalize d.kept.length = m at *
  generalize d.written.length = k at *
  have hr : Try.f11.results = #[.cell 2 25, .tmp 3] := rfl
  go_enter Try.func11, Try.ntmps11
  go_wp2_with fail
  have hW0 : Bel w ((w.alloc (.cells #[.slice A1 m c1, .slice A2 k c2] 25)).alloc (.cells #[.slice none 0 0, .slice none 0 0] 25)) := ((Bel.rfl_ w).al _).al _
  have hQ := ((Blk.new w 25 #[.slice A1 m c1, .slice A2 k c2]).keep ((Bel.rfl_ _).al (.cells #[.slice none 0 0, .slice none 0 0] 25)))
  have hR := Blk.new (w.alloc (.cells #[.slice A1 m c1, .slice A2 k c2] 25)) 25 #[.slice none 0 0, .slice none 0 0]
  rw [World.size_alloc] at hR
  refine (HC.out _ hW0).mono ?_
  rintro r w1 ⟨rfl, hb⟩
  have q0 : w1.cell? ⟨w.heap.size, 0, none⟩ = some (.slice A1 m c1) := (hQ.keep hb).cell (i := 0) rfl
  have q1 : w1.cell? ⟨w.heap.size, 1, none⟩ = some (.slice A2 k c2) := (hQ.keep hb).cell (i := 1) rfl
  have hR1 := hR.keep hb
  have d0 : w1.cell? ⟨w.heap.size + 1, 0, none⟩ = some (.slice none 0 0) := hR1.cell (i := 0) rfl
  have d1 : w1.cell? ⟨w.heap.size + 1, 1, none⟩ = some (.slice none 0 0) := hR1.cell (i := 1) rfl
  have e0 := hR1.frozen 0
  have e1 := hR1.frozen 1
  have HR1 := Lib.hid hR1
  have HB := Lib.hid (hW0.tr hb)
  clear hW0 hQ hR hb hR1 HC
  by_cases hE : E = 0
  · rw [if_pos hE] at HU
    go_wp2_with fail
    refine (HP.out _ HB.out hE).mono ?_
    rintro r w2 ⟨v2, rfl, hd2, hb2⟩
    have hR2 := HR1.out.keep hb2
    have d0 : w2.cell? ⟨w.heap.size + 1, 0, none⟩ = some (.slice none 0 0) := hR2.cell (i := 0) rfl
    have d1 : w2.cell? ⟨w.heap.size + 1, 1, none⟩ = some (.slice none 0 0) := hR2.cell (i := 1) rfl
    have e0 := hR2.frozen 0
    have e1 := hR2.frozen 1
    have HR2 := Lib.hid hR2
    have HB2 := Lib.hid (HB.out.tr hb2)
    replace hd2 := hd2.base HB.out.size
    have HDK := Lib.hid hd2
    obtain ⟨B1, f1, B2, f2, rfl, -, -⟩ := hd2.lit
    clear hd2
    clear hR2 hb2
    go_wp2
    have z0 := (two_set (a := .slice B1 P.kept.length f1) (b := .slice B2 P.written.length f2) HR2.out).cell (i := 0) rfl
    have z1 := (two_set (a := .slice B1 P.kept.length f1) (b := .slice B2 P.written.length f2) HR2.out).cell (i := 1) rfl
    have hbl := (HB2.out.setCell (p := ⟨w.heap.size + 1, 0, none⟩) (by dsimp only; omega) (.slice B1 P.kept.length f1)).setCell (p := ⟨w.heap.size + 1, 1, none⟩) (by dsimp only; omega) (.slice B2 P.written.length f2)
    exact bodyPost_ret (v := .tuple #[.agg #[.slice B1 P.kept.length f1, .slice B2 P.written.length f2], .int .i64 0]) (by simp [results, z0, z1, go_sem]) rfl ⟨_, by rw [hE], by rw [← HU.out]; exact HDK.out.two HR2.out _ _, hbl⟩
  · rw [if_neg hE] at HU
    go_wp2
    have z0 := (two_set (a := .slice none 0 0) (b := .slice none 0 0) HR1.out).cell (i := 0) rfl
    have z1 := (two_set (a := .slice none 0 0) (b := .slice none 0 0) HR1.out).cell (i := 1) rfl
    have hbl := (HB.out.setCell (p := ⟨w.heap.size + 1, 0, none⟩) (by dsimp only; omega) (.slice none 0 0)).setCell (p := ⟨w.heap.size + 1, 1, none⟩) (by dsimp only; omega) (.slice none 0 0)
    exact bodyPost_ret (v := .tuple #[.agg #[.slice none 0 0, .slice none 0 0], .int .i64 E]) (by simp [results, z0, z1, go_sem]) rfl ⟨_, rfl, by rw [← HU.out]; exact DkO.empty _ _, hbl⟩

set_option maxRecDepth 20000 in
set_option maxHeartbeats 1000000 in
theorem crashO_any (d : Dk) (val : Value) (kv : Value) (l : List Bool) (w : World) (h : DkV w d val) (ho : d.ok) (hks : Sl boolR w kv l) (hkl : l.length ≤ 140737488351232) :
    Calls Try.prog 12 #[val, kv] w fun r w' => ∃ val', r = .returned (.tuple #[val', .int .i64 d.err]) ∧ DkO w' w.heap.size (d.crashed l) val' ∧ Bel w w' := by
  have HC := Lib.hid (fun W (hb : Bel w W) => check_any d val W (h.keep hb) ho)
  have HP := Lib.hid (fun W (hb : Bel w W) (K : Nat) (hK : W.cell? ⟨K, 0, none⟩ = some kv) (hz : d.err = 0) => keepC_any d val K kv l W (h.keep hb) hz hK (hks.keep hb) hkl)
  have HU : Hid ((if d.err = 0 then ⟨crs (kb l) 0 d.written d.kept, []⟩ else noDk) = d.crashed l) := Lib.hid rfl
  generalize d.crashed l = U at *
  generalize (⟨crs (kb l) 0 d.written d.kept, []⟩ : Dk) = P at *
  obtain ⟨A3, c3, rfl, -⟩ := hks
  obtain ⟨A1, c1, A2, c2, rfl, h1, h2⟩ := h
  clear h1 h2 ho
  generalize d.err = E at *
  generalize d.kept.length = m at *
  generalize d.written.length = k at *
  have hr : Try.f12.results = #[.cell 4 25, .tmp 5] := rfl
  go_enter Try.func12, Try.ntmps12
  go_wp2_with fail
  have hW0 : Bel w (((w.alloc (.cells #[.slice A1 m c1, .slice A2 k c2] 25)).alloc (.cells #[.slice A3 l.length c3] 26)).alloc (.cells #[.slice none 0 0, .slice none 0 0] 25)) := (((Bel.rfl_ w).al _).al _).al _
  have hQ := ((Blk.new w 25 #[.slice A1 m c1, .slice A2 k c2]).keep (((Bel.rfl_ _).al (.cells #[.slice A3 l.length c3] 26)).al (.cells #[.slice none 0 0, .slice none 0 0] 25)))
  have hK := (Blk.new (w.alloc (.cells #[.slice A1 m c1, .slice A2 k c2] 25)) 26 #[.slice A3 l.length c3]).keep ((Bel.rfl_ _).al (.cells #[.slice none 0 0, .slice none 0 0] 25))
  rw [World.size_alloc] at hK
  have hR := Blk.new ((w.alloc (.cells #[.slice A1 m c1, .slice A2 k c2] 25)).alloc (.cells #[.slice A3 l.length c3] 26)) 25 #[.slice none 0 0, .slice none 0 0]
  rw [World.size_alloc, World.size_alloc] at hR
  refine (HC.out _ hW0).mono ?_
  rintro r w1 ⟨rfl, hb⟩
  have q0 : w1.cell? ⟨w.heap.size, 0, none⟩ = some (.slice A1 m c1) := (hQ.keep hb).cell (i := 0) rfl
  have q1 : w1.cell? ⟨w.heap.size, 1, none⟩ = some (.slice A2 k c2) := (hQ.keep hb).cell (i := 1) rfl
  have HK0 : Hid (w1.cell? ⟨w.heap.size + 1, 0, none⟩ = some (.slice A3 l.length c3)) := Lib.hid ((hK.keep hb).cell (i := 0) rfl)
  have hR1 := hR.keep hb
  have d0 : w1.cell? ⟨w.heap.size + 2, 0, none⟩ = some (.slice none 0 0) := hR1.cell (i := 0) rfl
  have d1 : w1.cell? ⟨w.heap.size + 2, 1, none⟩ = some (.slice none 0 0) := hR1.cell (i := 1) rfl
  have e0 := hR1.frozen 0
  have e1 := hR1.frozen 1
  have HR1 := Lib.hid hR1
  have HB := Lib.hid (hW0.tr hb)
  clear hW0 hQ hR hb hR1 HC hK
  by_cases hE : E = 0
  · rw [if_pos hE] at HU
    go_wp2_with fail
    refine (HP.out _ HB.out _ HK0.out hE).mono ?_
    rintro r w2 ⟨v2, rfl, hd2, hb2⟩
    have hR2 := HR1.out.keep hb2
    have d0 : w2.cell? ⟨w.heap.size + 2, 0, none⟩ = some (.slice none 0 0) := hR2.cell (i := 0) rfl
    have d1 : w2.cell? ⟨w.heap.size + 2, 1, none⟩ = some (.slice none 0 0) := hR2.cell (i := 1) rfl
    have e0 := hR2.frozen 0
    have e1 := hR2.frozen 1
    have HR2 := Lib.hid hR2
    have HB2 := Lib.hid (HB.out.tr hb2)
    replace hd2 := hd2.base HB.out.size
    have HDK := Lib.hid hd2
    obtain ⟨B1, f1, B2, f2, rfl, -, -⟩ := hd2.lit
    clear hd2
    clear hR2 hb2
    go_wp2
    have z0 := (two_set (a := .slice B1 P.kept.length f1) (b := .slice B2 P.written.length f2) HR2.out).cell (i := 0) rfl
    have z1 := (two_set (a := .slice B1 P.kept.length f1) (b := .slice B2 P.written.length f2) HR2.out).cell (i := 1) rfl
    have hbl := (HB2.out.setCell (p := ⟨w.heap.size + 2, 0, none⟩) (by dsimp only; omega) (.slice B1 P.kept.length f1)).setCell (p := ⟨w.heap.size + 2, 1, none⟩) (by dsimp only; omega) (.slice B2 P.written.length f2)
    exact bodyPost_ret (v := .tuple #[.agg #[.slice B1 P.kept.length f1, .slice B2 P.written.length f2], .int .i64 0]) (by simp [results, z0, z1, go_sem]) rfl ⟨_, by rw [hE], by rw [← HU.out]; exact HDK.out.two HR2.out _ _, hbl⟩
  · rw [if_neg hE] at HU
    go_wp2
    have z0 := (two_set (a := .slice none 0 0) (b := .slice none 0 0) HR1.out).cell (i := 0) rfl
    have z1 := (two_set (a := .slice none 0 0) (b := .slice none 0 0) HR1.out).cell (i := 1) rfl
    have hbl := (HB.out.setCell (p := ⟨w.heap.size + 2, 0, none⟩) (by dsimp only; omega) (.slice none 0 0)).setCell (p := ⟨w.heap.size + 2, 1, none⟩) (by dsimp only; omega) (.slice none 0 0)
    exact bodyPost_ret (v := .tuple #[.agg #[.slice none 0 0, .slice none 0 0], .int .i64 E]) (by simp [results, z0, z1, go_sem]) rfl ⟨_, rfl, by rw [← HU.out]; exact DkO.empty _ _, hbl⟩

end Go.Proofs.Ytkojeofegoljpaa

namespace Go.Proofs.Ytkojeofegoljpaa
open Go.RowKit

/-- a row of a type, at or above a bound; its cells may hold whatever -/
def Rw (w : World) (B : Nat) (e : TypeId) (size : Nat) (v : Value) (n : Nat) : Prop :=
  n ≤ 140737488351232 ∧ ∃ A c, v = .slice A n c ∧ (0 < n → ∃ g cur, A = some ⟨g, 0, none⟩ ∧ n ≤ c ∧ B ≤ g ∧ Blk w g e cur ∧ n * size ≤ cur.size)
theorem Rw.of {w : World} {B : Nat} {e : TypeId} {size n : Nat} {v : Value} {xs : List Value} (h : w.ownsRow B e size v n xs) (hn : n ≤ 140737488351232) : Rw w B e size v n := by
  refine ⟨hn, ?_⟩
  rcases h.2 with ⟨rfl, rfl⟩ | ⟨g, cap, cur, rfl, hb, hg, hnc, hcm, hcs, ht⟩
  · exact ⟨none, 0, rfl, fun h => by omega⟩
  · exact ⟨_, cap, rfl, fun _ => ⟨g, cur, rfl, hnc, hb, hg, by rw [hcs]; exact Nat.mul_le_mul_right _ hnc⟩⟩
theorem Rw.base {w : World} {B B' : Nat} {e : TypeId} {size n : Nat} {v : Value} (h : Rw w B e size v n) (hb : B' ≤ B) : Rw w B' e size v n := by
  obtain ⟨h1, A, c, h2, h3⟩ := h
  refine ⟨h1, A, c, h2, fun hp => ?_⟩
  obtain ⟨g, cur, h4, h5, h6, h7⟩ := h3 hp
  exact ⟨g, cur, h4, h5, by omega, h7⟩

/-- above a bound, cells of strings, Writtens and events may turn -/
def soft (t : TypeId) : Bool := decide (t = 9) || decide (t = 71) || decide (t = 81)
def Chg (B : Nat) (w w' : World) : Prop := Below B w w' ∧ ∀ g t cur, Blk w g t cur → ∃ cur', Blk w' g t cur' ∧ cur'.size = cur.size ∧ (soft t = false → cur' = cur)
theorem Chg.rfl_ (B : Nat) (w : World) : Chg B w w := ⟨Below.refl _ _, fun _ _ cur h => ⟨cur, h, rfl, fun _ => rfl⟩⟩
theorem Chg.tr {B : Nat} {a b c : World} (h : Chg B a b) (k : Chg B b c) : Chg B a c := by
  refine ⟨h.1.trans k.1, fun g t cur hg => ?_⟩
  obtain ⟨c1, h1, h2, h3⟩ := h.2 g t cur hg
  obtain ⟨c2, k1, k2, k3⟩ := k.2 g t c1 h1
  exact ⟨c2, k1, k2.trans h2, fun ht => (k3 ht).trans (h3 ht)⟩
theorem Chg.bel {B : Nat} {a b : World} (h : Bel a b) (hB : B ≤ a.heap.size) : Chg B a b :=
  ⟨Below.mono h hB, fun _ _ cur hg => ⟨cur, hg.keep h, rfl, fun _ => rfl⟩⟩
theorem Chg.set {B : Nat} {w : World} {g : Nat} {t : TypeId} {cur : Array Value} (hg : Blk w g t cur) (hB : B ≤ g) (ht : soft t = true) (i : Nat) (u : Value) : Chg B w (w.setCell ⟨g, i, none⟩ u) := by
  refine ⟨(Below.refl B w).setCell (p := ⟨g, i, none⟩) hB u, fun g' t' cur' hg' => ?_⟩
  by_cases he : g' = g
  · subst he
    have h1 : some (Obj.cells cur t (0, 0)) = some (Obj.cells cur' t' (0, 0)) := by
      have a : w.heap[g']? = _ := hg
      have b : w.heap[g']? = _ := hg'
      rw [← a, ← b]
    injection h1 with h1
    injection h1 with h1 h2
    subst h1
    subst h2
    exact ⟨_, hg.set_ i u, by simp, fun hs => by rw [ht] at hs; cases hs⟩
  · exact ⟨cur', hg'.far2 he i u, rfl, fun _ => rfl⟩
theorem Rw.chg {B' : Nat} {w w' : World} (h : Chg B' w w') {B : Nat} {e : TypeId} {size n : Nat} {v : Value} (hr : Rw w B e size v n) : Rw w' B e size v n := by
  obtain ⟨h1, A, c, h2, h3⟩ := hr
  refine ⟨h1, A, c, h2, fun hp => ?_⟩
  obtain ⟨g, cur, h4, h5, h6, h7, h8⟩ := h3 hp
  obtain ⟨cur', k1, k2, -⟩ := h.2 g e cur h7
  exact ⟨g, cur', h4, h5, h6, k1, by omega⟩
theorem Chg.own {B' : Nat} {w w' : World} (h : Chg B' w w') {B : Nat} {e : TypeId} {size n : Nat} {v : Value} {xs : List Value} (hr : w.ownsRow B e size v n xs) (he : soft e = false) : w'.ownsRow B e size v n xs := by
  refine ⟨hr.1, ?_⟩
  rcases hr.2 with h0 | ⟨g, cap, cur, rfl, hb, hg, rest⟩
  · exact .inl h0
  · obtain ⟨cur', k1, -, k3⟩ := h.2 g e cur hg
    rw [k3 he] at k1
    exact .inr ⟨g, cap, cur, rfl, hb, k1, rest⟩
theorem Chg.blk {B' : Nat} {w w' : World} (h : Chg B' w w') {g : Nat} {e : TypeId} {cs : Array Value} (hg : Blk w g e cs) (he : soft e = false) : Blk w' g e cs := by
  obtain ⟨cur', k1, -, k3⟩ := h.2 g e cs hg
  rw [k3 he] at k1
  exact k1

/-- a disk whose rows may be spoilt -/
def RwD (w : World) (B : Nat) (val : Value) : Prop := ∃ A1 n1 c1 A2 n2 c2, val = .agg #[.slice A1 n1 c1, .slice A2 n2 c2] ∧ Rw w B 9 1 (.slice A1 n1 c1) n1 ∧ Rw w B 71 2 (.slice A2 n2 c2) n2
theorem RwD.chg {B' : Nat} {w w' : World} (h : Chg B' w w') {B : Nat} {val : Value} (hr : RwD w B val) : RwD w' B val := by
  obtain ⟨A1, n1, c1, A2, n2, c2, h1, h2, h3⟩ := hr
  exact ⟨A1, n1, c1, A2, n2, c2, h1, h2.chg h, h3.chg h⟩
theorem RwD.of {w : World} {B : Nat} {d : Dk} {val : Value} (h : DkO w B d val) (h1 : d.kept.length ≤ 600) (h2 : d.written.length ≤ 600) : RwD w B val := by
  obtain ⟨A1, c1, A2, c2, rfl, h3, h4⟩ := h.lit
  exact ⟨A1, _, c1, A2, _, c2, rfl, Rw.of h3 (by omega), Rw.of h4 (by omega)⟩
theorem RwD.empty (w : World) (B : Nat) : RwD w B emptyD := ⟨none, 0, 0, none, 0, 0, rfl, ⟨by omega, none, 0, rfl, fun h => by omega⟩, ⟨by omega, none, 0, rfl, fun h => by omega⟩⟩
/-- so many disks whose rows may be spoilt -/
def RwW (w : World) (B : Nat) (v : Value) (n : Nat) : Prop := ∃ ps : List (Value × Value), w.ownsRow B 25 2 v n (prC ps) ∧ ps.length = n ∧ ∀ (i : Nat) p, ps[i]? = some p → RwD w B (.agg #[p.1, p.2])
theorem RwW.chg {B' : Nat} {w w' : World} (h : Chg B' w w') {B : Nat} {v : Value} {n : Nat} (hr : RwW w B v n) : RwW w' B v n := by
  obtain ⟨ps, h1, h2, h3⟩ := hr
  exact ⟨ps, h.own h1 (by decide), h2, fun i p hp => (h3 i p hp).chg h⟩
theorem RwW.of {w : World} {B : Nat} {v : Value} {ways : List Dk} (h : WayO w B v ways) (hs : ∀ d ∈ ways, d.kept.length ≤ 600 ∧ d.written.length ≤ 600) : RwW w B v ways.length := by
  obtain ⟨ps, h1, h2, h3⟩ := h
  rw [h2] at h1
  refine ⟨ps, h1, h2, fun i p hp => ?_⟩
  have hi := (List.getElem?_eq_some_iff.1 hp).1
  have hd : ways[i]? = some (ways[i]'(by omega)) := List.getElem?_eq_getElem (by omega)
  have hm := hs _ (List.mem_of_getElem? hd)
  exact RwD.of (h3 i p _ hp hd) hm.1 hm.2
theorem RwW.nil (w : World) (B : Nat) : RwW w B (.slice none 0 0) 0 := ⟨[], World.ownsRow_nil _ _ _ _, rfl, fun i p hp => by simp at hp⟩
/-- so many lists of events whose rows may be spoilt -/
def RwB (w : World) (B : Nat) (v : Value) (n : Nat) : Prop := ∃ vs : List Value, w.ownsRow B 45 1 v n vs ∧ vs.length = n ∧ ∀ (i : Nat) u, vs[i]? = some u → ∃ m, Rw w B 81 6 u m
theorem RwB.chg {B' : Nat} {w w' : World} (h : Chg B' w w') {B : Nat} {v : Value} {n : Nat} (hr : RwB w B v n) : RwB w' B v n := by
  obtain ⟨ps, h1, h2, h3⟩ := hr
  exact ⟨ps, h.own h1 (by decide), h2, fun i p hp => (h3 i p hp).imp fun m k => k.chg h⟩
theorem RwB.of {w : World} {B : Nat} {v : Value} {bs : List (List Ev)} (h : BsO w B v bs) (hs : ∀ l ∈ bs, l.length ≤ 140737488351232) : RwB w B v bs.length := by
  obtain ⟨ps, h1, h2, h3⟩ := h
  rw [h2] at h1
  refine ⟨ps, h1, h2, fun i p hp => ?_⟩
  have hi := (List.getElem?_eq_some_iff.1 hp).1
  have hd : bs[i]? = some (bs[i]'(by omega)) := List.getElem?_eq_getElem (by omega)
  exact ⟨_, Rw.of (h3 i p _ hp hd) (hs _ (List.mem_of_getElem? hd))⟩

set_option maxRecDepth 20000 in
set_option maxHeartbeats 1000000 in
theorem spoilEvents_any (v : Value) (n B : Nat) (w : World) (h : Rw w B 81 6 v n) :
    Calls Try.prog 35 #[v] w fun r w' => (∃ u, r = .returned u) ∧ Chg B w w' := by
  obtain ⟨hn, A, c, rfl, hA⟩ := h
  have HA := Lib.hid hA
  clear hA
  go_enter Try.func35, Try.ntmps35
  go_wp2
  go_loopw [2] (fun t wr => ∃ k : Nat, k ≤ n ∧ t = .int .i64 k ∧ Hid (Chg B w wr)) (fun t _ => n - (intOf t).toNat)
  case atStart => exact ⟨0, by omega, rfl, Lib.hid (Chg.rfl_ B w)⟩
  case round =>
    obtain ⟨k, hk, rfl, HB⟩ := hrel
    by_cases hlt : k < n
    · have hd : decide ((k : Int) < n) = true := decide_eq_true (by omega)
      obtain ⟨g, cur, rfl, hnc, hBg, hg, hsz⟩ := HA.out (by omega)
      obtain ⟨cur', hg', hs', -⟩ := HB.out.2 g _ cur hg
      have hlt2 : k * 6 < cur'.size := by omega
      have x0 := hg'.cell (i := k * 6) (v := cur'[k * 6]) (Array.getElem?_eq_getElem hlt2)
      have xf := hg'.frozen (k * 6)
      have HS := Lib.hid (Chg.set hg' hBg (by decide) (k * 6) (.int .i64 (-7)))
      generalize cur'[k * 6] = old at *
      clear hg hg' hs' hlt2 hsz
      go_wp2
      go_roundw
      case rel => exact ⟨k + 1, by omega, by go_num, Lib.hid (HB.out.tr HS.out)⟩
      case measure => simp [intOf]; omega
    · obtain rfl : k = n := by omega
      have hd : decide ((k : Int) < k) = false := decide_eq_false (by omega)
      go_wp2
      exact bodyPost_end (v := .tuple #[]) (results_none rfl _ _ _) rfl ⟨⟨_, rfl⟩, HB.out⟩

set_option maxRecDepth 20000 in
set_option maxHeartbeats 1000000 in
theorem spoilDisk_any (val : Value) (B : Nat) (w : World) (hB : B ≤ w.heap.size) (h : RwD w B val) :
    Calls Try.prog 34 #[val] w fun r w' => (∃ u, r = .returned u) ∧ Chg B w w' := by
  obtain ⟨A1, n1, c1, A2, n2, c2, rfl, ⟨hn1, _, _, e1, hA1⟩, ⟨hn2, _, _, e2, hA2⟩⟩ := h
  injection e1 with e1 _ e3
  subst e1
  subst e3
  injection e2 with e2 _ e3
  subst e2
  subst e3
  have HA1 := Lib.hid hA1
  have HA2 := Lib.hid hA2
  have HQ := Lib.hid (Blk.new w 25 #[.slice A1 n1 c1, .slice A2 n2 c2])
  have HB0 := Lib.hid (Chg.bel ((Bel.rfl_ w).al (.cells #[.slice A1 n1 c1, .slice A2 n2 c2] 25)) hB)
  have HRF := Lib.hid (Chg.rfl_ B (w.alloc (.cells #[.slice A1 n1 c1, .slice A2 n2 c2] 25)))
  clear hA1 hA2
  go_enter Try.func34, Try.ntmps34
  go_wp2
  generalize w.alloc (.cells #[.slice A1 n1 c1, .slice A2 n2 c2] 25) = W0 at *
  generalize w.heap.size = S at *
  go_loopw [2] (fun t wr => ∃ k : Nat, k ≤ n1 ∧ t = .int .i64 k ∧ Hid (Chg B W0 wr)) (fun t _ => n1 - (intOf t).toNat)
  case atStart => exact ⟨0, by omega, rfl, HRF⟩
  case round =>
    obtain ⟨k, hk, rfl, HB⟩ := hrel
    have HQ1 := Lib.hid (HB.out.blk HQ.out (by decide))
    have q0 := HQ1.out.cell (i := 0) (v := .slice A1 n1 c1) rfl
    have q1 := HQ1.out.cell (i := 1) (v := .slice A2 n2 c2) rfl
    by_cases hlt : k < n1
    · have hd : decide ((k : Int) < n1) = true := decide_eq_true (by omega)
      obtain ⟨g, cur, rfl, hnc, hBg, hg, hsz⟩ := HA1.out (by omega)
      obtain ⟨cur', hg', hs', -⟩ := (HB0.out.tr HB.out).2 g _ cur hg
      have hlt2 : k < cur'.size := by omega
      have x0 := hg'.cell (i := k) (v := cur'[k]) (Array.getElem?_eq_getElem hlt2)
      have xf := hg'.frozen k
      have HS := Lib.hid (Chg.set hg' hBg (by decide) k (.string ⟨#[63]⟩))
      generalize cur'[k] = old at *
      clear hg hg' hs' hlt2 hsz
      go_wp2
      go_roundw
      case rel => exact ⟨k + 1, by omega, by go_num, Lib.hid (HB.out.tr HS.out)⟩
      case measure => simp [intOf]; omega
    · obtain rfl : k = n1 := by omega
      have hd : decide ((k : Int) < k) = false := decide_eq_false (by omega)
      go_wp2
      clear hd hlt q0 q1 HQ1
      go_loopw [3] (fun t wx => ∃ j : Nat, j ≤ n2 ∧ t = .int .i64 j ∧ Hid (Chg B W0 wx)) (fun t _ => n2 - (intOf t).toNat)
      case atStart => exact ⟨0, by omega, rfl, HB⟩
      case round =>
        clear HB
        obtain ⟨j, hj, rfl, HB⟩ := hrel
        have HQ1 := Lib.hid (HB.out.blk HQ.out (by decide))
        have q0 := HQ1.out.cell (i := 0) (v := .slice A1 k c1) rfl
        have q1 := HQ1.out.cell (i := 1) (v := .slice A2 n2 c2) rfl
        by_cases hlt : j < n2
        · have hd : decide ((j : Int) < n2) = true := decide_eq_true (by omega)
          obtain ⟨g, cur, rfl, hnc, hBg, hg, hsz⟩ := HA2.out (by omega)
          obtain ⟨cur', hg', hs', -⟩ := (HB0.out.tr HB.out).2 g _ cur hg
          have hlt2 : j * 2 + 1 < cur'.size := by omega
          have x0 := hg'.cell (i := j * 2 + 1) (v := cur'[j * 2 + 1]) (Array.getElem?_eq_getElem hlt2)
          have xf := hg'.frozen (j * 2 + 1)
          have HS := Lib.hid (Chg.set hg' hBg (by decide) (j * 2 + 1) (.string ⟨#[63]⟩))
          generalize cur'[j * 2 + 1] = old at *
          clear hg hg' hs' hlt2 hsz
          go_wp2
          go_roundw
          case rel => exact ⟨j + 1, by omega, by go_num, Lib.hid (HB.out.tr HS.out)⟩
          case measure => simp [intOf]; omega
        · obtain rfl : j = n2 := by omega
          have hd : decide ((j : Int) < j) = false := decide_eq_false (by omega)
          go_wp2
          exact bodyPost_end (v := .tuple #[]) (results_none rfl _ _ _) rfl ⟨⟨_, rfl⟩, HB0.out.tr HB.out⟩

end Go.Proofs.Ytkojeofegoljpaa

namespace Go.Proofs.Ytkojeofegoljpaa
open Go.RowKit

/-- a disk of so many sectors on which these batches are -/
structure St (n : Nat) (d : Dk) (bs : List (List Ev)) (need : Int) (i : Nat) : Prop where
  err : d.err = 0
  wr : d.written = []
  len : d.kept.length = n
  load : ∃ t u, loadOf d.kept = some (t, u, bs) ∧ t ≤ i ∧ (u : Int) + 2 ≤ need
  need : 4 ≤ need ∧ need ≤ 4 + 62 * i
  cnt : bs.length ≤ i
  small : ∀ x ∈ bs, x.length ≤ 60
theorem St.more {n : Nat} {d : Dk} {bs : List (List Ev)} {need : Int} {i : Nat} (h : St n d bs need i) : St n d bs need (i + 1) := by
  obtain ⟨h1, h2, h3, ⟨t, u, h4, h5, h6⟩, h7, h8, h9⟩ := h
  exact ⟨h1, h2, h3, ⟨t, u, h4, by omega, h6⟩, by omega, by omega, h9⟩
theorem fmt_err {n : Nat} (h : 4 ≤ n ∧ n ≤ 600) : fmtErr n = 0 := by rw [fmtErr, if_neg (by omega), newErr, if_pos (by omega)]
theorem fmt_bad {n : Int} (h : n < 4 ∨ 600 < n) : fmtErr n = 3 ∧ fmtDk n = noDk := by
  refine ⟨?_, by rw [fmtDk, if_neg (by omega)]⟩
  rw [fmtErr]
  by_cases h4 : n < 4
  · rw [if_pos h4]
  · rw [if_neg h4, newErr, if_neg (by omega)]
theorem St.fmt {n : Nat} (h : 4 ≤ n ∧ n ≤ 600) : St n (fmtDk n) [] 4 0 := by
  have e : fmtDk n = ⟨secS 1001 [0, 2] :: List.replicate (n - 1) (sec 0), []⟩ := by rw [fmtDk, if_pos (by omega), Int.toNat_natCast]
  rw [e]
  have hlen : (secS 1001 [0, 2] :: List.replicate (n - 1) (sec 0)).length = n := by rw [List.length_cons, List.length_replicate]; omega
  refine ⟨Dk.err_of ?_ (fun s hs => ?_) (by simp) (by simp), rfl, hlen, ⟨0, 2, load_fmt n h.1, by omega, by omega⟩, by omega, by simp, by simp⟩
  · show 1 ≤ (secS 1001 [0, 2] :: List.replicate (n - 1) (sec 0)).length ∧ (secS 1001 [0, 2] :: List.replicate (n - 1) (sec 0)).length ≤ 600
    omega
  · rcases List.mem_cons.1 hs with rfl | hs
    · exact secS_size (by simp)
    · rw [(List.mem_replicate.1 hs).2]; exact secZ_size
/-- what Append tells: no room, or all is well -/
theorem St.app {n : Nat} {d : Dk} {bs : List (List Ev)} {need : Int} {i : Nat} (h : St n d bs need i) {l : List Ev} (hl : l.length ≤ 60) (hs : l.all evSmall = true) :
    (appErr d l = 8 ∧ (n : Int) < need + 2 + l.length) ∨ (appErr d l = 0 ∧ ∃ t u, loadOf d.kept = some (t, u, bs) ∧ u + 1 + l.length ≤ d.kept.length ∧ t ≤ i ∧ (u : Int) + 2 ≤ need) := by
  obtain ⟨h1, h2, h3, ⟨t, u, h4, h5, h6⟩, h7, h8, h9⟩ := h
  rw [appErr, if_pos h1, if_neg (by omega), if_pos hs, h4]
  simp only []
  by_cases hu : d.kept.length < u + 1 + l.length
  · rw [if_pos hu]
    exact .inl ⟨rfl, by omega⟩
  · rw [if_neg hu]
    exact .inr ⟨rfl, t, u, rfl, by omega, h5, h6⟩
/-- what a crash leaves -/
theorem St.next {n : Nat} {d : Dk} {bs : List (List Ev)} {need : Int} {i : Nat} (h : St n d bs need i) {l : List Ev} (hl : l.length ≤ 60) (hs : l.all evSmall = true) (hi : i ≤ 40) {t : Int} {u : Nat} (h4 : loadOf d.kept = some (t, u, bs)) (hu : u + 1 + l.length ≤ d.kept.length) (ht : t ≤ i) (hn : (u : Int) + 2 ≤ need)
    (keep : List Bool) {k : Nat} {D : Dk} (hk : (appWays d.kept t u l)[k]? = some D) : D.err = 0 ∧ ∃ os, opErr (D.crashed keep) = 0 ∧ (∃ t' u', loadOf (D.crashed keep).kept = some (t', u', os)) ∧ (os = bs ∧ k ≠ l.length + 3 ∨ os = bs ++ [l]) ∧
      (os = bs → St n (D.crashed keep) bs need (i + 1)) ∧ (os = bs ++ [l] → St n (D.crashed keep) (bs ++ [l]) (need + (2 + l.length)) (i + 1)) := by
  obtain ⟨e1, e2, e3, -, e7, e8, e9⟩ := h
  obtain ⟨w1, w2, w3⟩ := way_crash e1 h4 (by omega) hs hl hu keep (List.mem_of_getElem? hk)
  obtain ⟨c1, c2, c3⟩ := Dk.crashed_of w1 keep
  have hne : bs ≠ bs ++ [l] := fun h => by have := congrArg List.length h; simp at this
  refine ⟨w1, ?_⟩
  have hop : ∀ t' u' os, loadOf (D.crashed keep).kept = some (t', u', os) → opErr (D.crashed keep) = 0 := fun t' u' os h => by rw [opErr, if_pos c1, h]
  have hsm : ∀ x ∈ bs ++ [l], x.length ≤ 60 := fun x hx => by
    rcases List.mem_append.1 hx with hx | hx
    · exact e9 x hx
    · obtain rfl := List.mem_singleton.1 hx
      exact hl
  rcases w2 with w2 | w2
  · refine ⟨bs, hop _ _ _ w2, ⟨_, _, w2⟩, .inl ⟨rfl, fun hkl => ?_⟩, fun _ => ⟨c1, c3, by rw [c2, w3]; exact e3, ⟨t, u, w2, by omega, hn⟩, by omega, by omega, e9⟩, fun h => absurd h hne⟩
    subst hkl
    rw [ways_last] at hk
    obtain rfl := Option.some.inj hk
    rw [last_crash e1 h4 (by omega) hs hl hu keep] at w2
    injection w2 with w2
    injection w2 with _ w2
    injection w2 with _ w2
    exact hne w2.symm
  · exact ⟨bs ++ [l], hop _ _ _ w2, ⟨_, _, w2⟩, .inr rfl, fun h => absurd h.symm hne, fun _ => ⟨c1, c3, by rw [c2, w3]; exact e3, ⟨t + 1, u + 1 + l.length, w2, by omega, by omega⟩, by omega, by simp; omega, hsm⟩⟩
/-- batches that are lists of what came in, in a row of the call's own -/
def Th (w wr : World) (v : Value) (bs : List (List Ev)) : Prop :=
  ∃ vs : List Value, wr.ownsRow w.heap.size 45 1 v vs.length vs ∧ vs.length = bs.length ∧ ∀ (i : Nat) u l, vs[i]? = some u → bs[i]? = some l → Sl evR w u l
theorem Th.nil (w wr : World) : Th w wr (.slice none 0 0) [] := ⟨[], World.ownsRow_nil _ _ _ _, rfl, fun i u l hu => by simp at hu⟩
theorem Th.keep {w w1 w2 : World} (hb : Bel w1 w2) {v : Value} {bs : List (List Ev)} (h : Th w w1 v bs) : Th w w2 v bs := by
  obtain ⟨vs, h1, h2, h3⟩ := h
  exact ⟨vs, hb.own h1, h2, h3⟩
theorem Th.sl {w wr : World} {v : Value} {bs : List (List Ev)} (hb : Bel w wr) (h : Th w wr v bs) : Sl (Rep.slice evR) wr v bs := by
  obtain ⟨vs, h1, h2, h3⟩ := h
  refine Sl.own (r := Rep.slice evR) h1 h2 fun k x hx => ?_
  obtain ⟨u, hu⟩ : ∃ u, vs[k]? = some u := ⟨_, List.getElem?_eq_getElem (by rw [h2]; exact (List.getElem?_eq_some_iff.1 hx).1)⟩
  refine ⟨u, ?_, (h3 k u x hu hx).keep hb⟩
  show (vs.drop (k * 1)).take 1 = [u]
  rw [Nat.mul_one]
  obtain ⟨hl, rfl⟩ := List.getElem?_eq_some_iff.1 hu
  rw [List.drop_eq_getElem_cons hl]
  rfl
/-- Append at such a disk -/
def OpA (w : World) (n : Nat) (d : Dk) (bs : List (List Ev)) (need : Int) (i : Nat) (l : List Ev) (r : Ending) (w' : World) : Prop :=
  (r = .returned (.tuple #[.agg #[.slice none 0 0, .slice none 0 0], .slice none 0 0, .int .i64 8]) ∧ (n : Int) < need + 2 + l.length) ∨
  ∃ t u X1 g1 X2 g2 A c, r = .returned (.tuple #[.agg #[.slice X1 (appF d.kept t u l).kept.length g1, .slice X2 (appF d.kept t u l).written.length g2], .slice A (l.length + 4) c, .int .i64 0]) ∧ loadOf d.kept = some (t, u, bs) ∧ u + 1 + l.length ≤ d.kept.length ∧ t ≤ i ∧ (u : Int) + 2 ≤ need ∧
    DkV w' (appF d.kept t u l) (.agg #[.slice X1 (appF d.kept t u l).kept.length g1, .slice X2 (appF d.kept t u l).written.length g2]) ∧ WayO w' w.heap.size (.slice A (l.length + 4) c) (appWays d.kept t u l)
theorem St.append {n : Nat} {d : Dk} {bs : List (List Ev)} {need : Int} {i : Nat} (h : St n d bs need i) {l : List Ev} (hl : l.length ≤ 60) (hs : l.all evSmall = true) (val lv : Value) (W : World) (hv : DkV W d val) (hlv : Sl evR W lv l) :
    Calls Try.prog 22 #[val, lv] W fun r w' => OpA W n d bs need i l r w' ∧ Bel W w' := by
  refine (append_any d val lv l W hv (Dk.ok_of h.err) hlv (by omega)).mono fun r w' hp => ?_
  obtain ⟨⟨v, wv, hr, h1, h2⟩, hb⟩ := hp
  refine ⟨?_, hb⟩
  rcases h.app hl hs with ⟨he, hn⟩ | ⟨he, t, u, hlo, hu, ht, hn⟩
  · obtain ⟨rfl, rfl⟩ := h1 (by rw [he]; decide)
    rw [he] at hr
    exact .inl ⟨hr, hn⟩
  · obtain ⟨hd, hw⟩ := h2 he t u bs hlo
    have hw0 := hw
    rw [he] at hr
    obtain ⟨ps, ho, hpn, -⟩ := hw
    rw [hpn, ways_len] at ho
    obtain ⟨g, cap, rfl⟩ := ownsRow_some ho (by omega)
    obtain ⟨X1, g1, X2, g2, rfl, h3, h4⟩ := hd.dkv
    exact .inr ⟨t, u, X1, g1, X2, g2, _, _, hr, hlo, hu, ht, hn, ⟨X1, g1, X2, g2, rfl, h3, h4⟩, hw0⟩

theorem own_lit {w : World} {base : Nat} {e : TypeId} {size n : Nat} {v : Value} {xs : List Value} (h : w.ownsRow base e size v n xs) : ∃ A c, v = .slice A n c ∧ (A = none → c = 0) ∧ (0 < n → ∃ b off, A = some ⟨b, off, none⟩ ∧ CellsAt w b off xs) := by
  rcases h.2 with ⟨rfl, h0⟩ | ⟨g, cap, cur, rfl, _, hg, hnc, hcm, hcs, ht⟩
  · subst h0
    exact ⟨none, 0, rfl, fun _ => rfl, fun h => by omega⟩
  · refine ⟨some ⟨g, 0, none⟩, cap, rfl, (fun h => by cases h), fun _ => ⟨g, 0, rfl, fun j u hu => ?_⟩⟩
    rw [cell_of_row w g _ cur e (0, 0) hg]
    rw [← ht, List.getElem?_take] at hu
    split at hu
    · simpa using hu
    · cases hu
theorem Th.lit {w wr : World} {v : Value} {bs : List (List Ev)} (h : Th w wr v bs) : ∃ A c vs, v = .slice A bs.length c ∧ wr.ownsRow w.heap.size 45 1 (.slice A bs.length c) bs.length vs ∧ vs.length = bs.length * 1 ∧ (∀ (i : Nat) u l, vs[i]? = some u → bs[i]? = some l → Sl evR w u l) ∧ (∀ u ∈ vs, u.oneCell' = true) ∧
    (A = none → c = 0) ∧ (0 < bs.length → ∃ b off, A = some ⟨b, off, none⟩ ∧ CellsAt wr b off vs) := by
  obtain ⟨vs, h1, h2, h3⟩ := h
  rw [h2] at h1
  obtain ⟨A, c, rfl, h4, h5⟩ := own_lit h1
  refine ⟨A, c, vs, rfl, h1, by rw [h2, Nat.mul_one], h3, fun u hu => ?_, h4, h5⟩
  obtain ⟨i, hi, rfl⟩ := List.mem_iff_getElem.1 hu
  obtain ⟨B, d, e, -, -, -⟩ := h3 i _ (bs[i]'(by omega)) (List.getElem?_eq_getElem hi) (List.getElem?_eq_getElem (by omega))
  rw [e]
  rfl
theorem Th.snoc {w wr : World} {v lv : Value} {vs : List Value} {bs : List (List Ev)} {l : List Ev} (hn : vs.length = bs.length * 1) (hall : ∀ (i : Nat) u l, vs[i]? = some u → bs[i]? = some l → Sl evR w u l) (hl : Sl evR w lv l) (h : wr.ownsRow w.heap.size 45 1 v (bs.length + 1) (vs ++ [lv])) : Th w wr v (bs ++ [l]) := by
  rw [Nat.mul_one] at hn
  refine ⟨vs ++ [lv], by rw [List.length_append, hn]; exact h, by simp [hn], fun j x y hx hy => ?_⟩
  by_cases hj : j < vs.length
  · rw [List.getElem?_append_left hj] at hx
    rw [List.getElem?_append_left (by omega)] at hy
    exact hall j x y hx hy
  · obtain rfl : j = vs.length := by
      have := (List.getElem?_eq_some_iff.1 hx).1
      rw [List.length_append, List.length_singleton] at this
      omega
    rw [List.getElem?_append_right (Nat.le_refl _), Nat.sub_self] at hx
    rw [hn, List.getElem?_append_right (Nat.le_refl _), Nat.sub_self] at hy
    cases hx
    cases hy
    exact hl
theorem Th.aside {w wr : World} {v : Value} {bs : List (List Ev)} (h : Th w wr v bs) {S : Nat} {cs : Array Value} (hS : Blk wr S 25 cs) (u1 u2 : Value) : Th w ((wr.setCell ⟨S, 0, none⟩ u1).setCell ⟨S, 1, none⟩ u2) v bs := by
  obtain ⟨vs, h1, h2, h3⟩ := h
  exact ⟨vs, own_aside (own_aside h1 hS (by decide) 0 u1) (hS.set_ 0 u1) (by decide) 1 u2, h2, h3⟩
theorem appF_wr (kept : List ByteArray) (t : Int) (u : Nat) (l : List Ev) : (appF kept t u l).written.length = 0 := by
  unfold appF Dk.flushed
  split <;> rfl

end Go.Proofs.Ytkojeofegoljpaa

namespace Go.Proofs.Ytkojeofegoljpaa
open Go.RowKit

set_option maxRecDepth 20000 in
set_option maxHeartbeats 1000000 in
theorem appendLong_any (d : Dk) (val lv : Value) (l : List Ev) (w : World) (h : DkV w d val) (ho : d.ok) (hl : Sl evR w lv l) (h60 : 60 < l.length) :
    Calls Try.prog 22 #[val, lv] w fun r w' => AppIs w d l r w' ∧ Bel w w' := by
  have HCK := Lib.hid (fun val W h => check_any d val W h ho)
  have HE : Hid ((if d.err = 0 then if 60 < l.length then (2 : Int) else if l.all evSmall = true then match loadOf d.kept with
    | none => 4
    | some p => if d.kept.length < p.2.1 + 1 + l.length then 8 else 0
  else 3 else d.err) = appErr d l) := Lib.hid rfl
  have HH := Lib.hid h
  have HL := Lib.hid hl
  have hr : Try.f22.results = #[.cell 4 25, .tmp 5, .tmp 6] := rfl
  obtain ⟨A1, c1, A2, c2, rfl, h1, -⟩ := h
  have HK1 := Lib.hid h1
  obtain ⟨A3, c3, rfl, -, -, -⟩ := hl
  clear h1 ho
  go_enter Try.func22, Try.ntmps22
  have hW0 : Bel w ((w.alloc (.cells #[.slice A1 d.kept.length c1, .slice A2 d.written.length c2] 25)).alloc (.cells #[.slice none 0 0, .slice none 0 0] 25)) := ((Bel.rfl_ w).al _).al _
  have hQ := (Blk.new w 25 #[.slice A1 d.kept.length c1, .slice A2 d.written.length c2]).keep ((Bel.rfl_ _).al (.cells #[.slice none 0 0, .slice none 0 0] 25))
  have hR := Blk.new (w.alloc (.cells #[.slice A1 d.kept.length c1, .slice A2 d.written.length c2] 25)) 25 #[.slice none 0 0, .slice none 0 0]
  rw [World.size_alloc] at hR
  have HB := Lib.hid hW0
  have HQ := Lib.hid hQ
  have HR := Lib.hid hR
  have HSZ : Hid (w.heap.size + 2 ≤ ((w.alloc (.cells #[.slice A1 d.kept.length c1, .slice A2 d.written.length c2] 25)).alloc (.cells #[.slice none 0 0, .slice none 0 0] 25)).heap.size) := Lib.hid (by simp)
  clear hW0 hQ hR
  go_upto_region 1 with fail
  generalize (w.alloc (.cells #[.slice A1 d.kept.length c1, .slice A2 d.written.length c2] 25)).alloc (.cells #[.slice none 0 0, .slice none 0 0] 25) = W0 at *
  have q0 := HQ.out.cell (i := 0) (v := .slice A1 d.kept.length c1) rfl
  have q1 := HQ.out.cell (i := 1) (v := .slice A2 d.written.length c2) rfl
  go_wp2_with fail
  refine (HCK.out _ _ (HH.out.keep HB.out)).mono ?_
  rintro r w1 ⟨rfl, hb1⟩
  replace HB := Lib.hid (HB.out.tr hb1)
  replace HQ := Lib.hid (HQ.out.keep hb1)
  replace HR := Lib.hid (HR.out.keep hb1)
  replace HSZ := Lib.hid (Nat.le_trans HSZ.out (Lib.hid hb1).out.size)
  clear hb1 q0 q1 HCK
  have r0 := HR.out.cell (i := 0) (v := .slice none 0 0) rfl
  have r1 := HR.out.cell (i := 1) (v := .slice none 0 0) rfl
  have rf0 := HR.out.frozen 0
  have rf1 := HR.out.frozen 1
  by_cases hz : d.err = 0
  rotate_left
  · have hne : d.err ≠ 0 := hz
    have HNZ := Lib.hid hz
    have hbe : (d.err != 0) = true := by simpa using hz
    generalize hER : d.err = ER at *
    have HER := Lib.hid hER
    clear hz hER
    as_aux_lemma =>
      go_wp2
      have hs5 := two_set (a := .slice none 0 0) (b := .slice none 0 0) HR.out
      have z0 := hs5.cell (i := 0) (v := .slice none 0 0) rfl
      have z1 := hs5.cell (i := 1) (v := .slice none 0 0) rfl
      have hbl := (HB.out.setCell (p := ⟨w.heap.size + 1, 0, none⟩) (by dsimp only; omega) (.slice none 0 0)).setCell (p := ⟨w.heap.size + 1, 1, none⟩) (by dsimp only; omega) (.slice none 0 0)
      have hAE : Hid (appErr d l = ER) := Lib.hid (by rw [← HE.out]; rw [if_neg HNZ.out])
      exact bodyPost_ret (v := .tuple #[.agg #[.slice none 0 0, .slice none 0 0], .slice none 0 0, .int .i64 ER]) (by simp [results, z0, z1, go_sem]) rfl ⟨⟨_, _, by rw [hAE.out]; rfl, fun _ => ⟨rfl, rfl⟩, fun h0 => absurd (hAE.out.symm.trans h0) (by first | decide | exact hne)⟩, hbl⟩
  rw [hz]
  have HZ := Lib.hid hz
  clear hz
  have d60 : decide ((60 : Int) < l.length) = true := decide_eq_true (by omega)
  as_aux_lemma =>
    go_wp2
    have hs5 := two_set (a := .slice none 0 0) (b := .slice none 0 0) HR.out
    have z0 := hs5.cell (i := 0) (v := .slice none 0 0) rfl
    have z1 := hs5.cell (i := 1) (v := .slice none 0 0) rfl
    have hbl := (HB.out.setCell (p := ⟨w.heap.size + 1, 0, none⟩) (by dsimp only; omega) (.slice none 0 0)).setCell (p := ⟨w.heap.size + 1, 1, none⟩) (by dsimp only; omega) (.slice none 0 0)
    have hAE : Hid (appErr d l = 2) := Lib.hid (by rw [← HE.out]; rw [if_pos HZ.out, if_pos h60])
    exact bodyPost_ret (v := .tuple #[.agg #[.slice none 0 0, .slice none 0 0], .slice none 0 0, .int .i64 2]) (by simp [results, z0, z1, go_sem]) rfl ⟨⟨_, _, by rw [hAE.out]; rfl, fun _ => ⟨rfl, rfl⟩, fun h0 => absurd (hAE.out.symm.trans h0) (by first | decide | exact hne)⟩, hbl⟩

-- DISKED
/-- a disk of so many sectors on which these batches are, written in at most so many times -/
structure Dd (n : Nat) (d : Dk) (bs : List (List Ev)) (i : Nat) : Prop where
  err : d.err = 0
  wr : d.written = []
  len : d.kept.length = n
  load : ∃ t u, loadOf d.kept = some (t, u, bs) ∧ t ≤ i
  cnt : bs.length ≤ i
  small : ∀ x ∈ bs, x.length ≤ 60
theorem Dd.more {n : Nat} {d : Dk} {bs : List (List Ev)} {i : Nat} (h : Dd n d bs i) : Dd n d bs (i + 1) := by
  obtain ⟨h1, h2, h3, ⟨t, u, h4, h5⟩, h6, h7⟩ := h
  exact ⟨h1, h2, h3, ⟨t, u, h4, by omega⟩, by omega, h7⟩
theorem Dd.fmt {n : Nat} (h : 4 ≤ n ∧ n ≤ 600) : Dd n (fmtDk n) [] 0 := by
  obtain ⟨h1, h2, h3, ⟨t, u, h4, h5, -⟩, -, h6, h7⟩ := St.fmt h
  exact ⟨h1, h2, h3, ⟨t, u, h4, h5⟩, h6, h7⟩
theorem appF_wr0 (kept : List ByteArray) (t : Int) (u : Nat) (l : List Ev) : (appF kept t u l).written = [] := List.eq_nil_of_length_eq_zero (appF_wr kept t u l)
theorem Dd.next {n : Nat} {d : Dk} {bs : List (List Ev)} {i : Nat} (h : Dd n d bs i) (hi : i ≤ 100) {l : List Ev} (h0 : appErr d l = 0) : l.length ≤ 60 ∧ ∃ t u, loadOf d.kept = some (t, u, bs) ∧ Dd n (appF d.kept t u l) (bs ++ [l]) (i + 1) ∧ ∀ D ∈ appWays d.kept t u l, D.kept.length ≤ 600 ∧ D.written.length ≤ 600 := by
  obtain ⟨h1, h2, h3, ⟨t, u, h4, h5⟩, h6, h7⟩ := h
  rw [appErr, if_pos h1, h4] at h0
  simp only [] at h0
  by_cases hl : 60 < l.length
  · rw [if_pos hl] at h0
    exact absurd h0 (by decide)
  rw [if_neg hl] at h0
  by_cases hs : l.all evSmall = true
  rotate_left
  · rw [if_neg hs] at h0
    exact absurd h0 (by decide)
  rw [if_pos hs] at h0
  by_cases hu : d.kept.length < u + 1 + l.length
  · rw [if_pos hu] at h0
    exact absurd h0 (by decide)
  have hl' : l.length ≤ 60 := by omega
  have hu' : u + 1 + l.length ≤ d.kept.length := by omega
  have hF := way_crash h1 h4 (by omega) hs hl' hu' [] (List.mem_of_getElem? (ways_last d.kept t u l))
  refine ⟨hl', t, u, h4, ⟨hF.1, appF_wr0 _ _ _ _, by rw [hF.2.2]; exact h3, ⟨t + 1, u + 1 + l.length, load_new h1 h4 (by omega) hs hl' hu', by omega⟩, by simp; omega, fun x hx => ?_⟩, fun D hD => ?_⟩
  · rcases List.mem_append.1 hx with hx | hx
    · exact h7 x hx
    · obtain rfl := List.mem_singleton.1 hx
      exact hl'
  · exact Dk.err_small (way_crash h1 h4 (by omega) hs hl' hu' [] hD).1
theorem app2_any {n : Nat} {d : Dk} {bs : List (List Ev)} {i : Nat} (h : Dd n d bs i) (hi : i ≤ 100) (l : List Ev) (val lv : Value) (W : World) (hv : DkV W d val) (hlv : Sl evR W lv l) (B : Nat) (hB : B ≤ W.heap.size) :
    Calls Try.prog 22 #[val, lv] W fun r w' => (∃ X1 k1 g1 X2 k2 g2 AW kw cW E, r = .returned (.tuple #[.agg #[.slice X1 k1 g1, .slice X2 k2 g2], .slice AW kw cW, .int .i64 E]) ∧ kw ≤ 1000 ∧ RwD w' W.heap.size (.agg #[.slice X1 k1 g1, .slice X2 k2 g2]) ∧ RwW w' W.heap.size (.slice AW kw cW) kw ∧
      (E = 0 → l.length ≤ 60 ∧ ∃ F, k1 = F.kept.length ∧ k2 = F.written.length ∧ Dd n F (bs ++ [l]) (i + 1) ∧ DkO w' B F (.agg #[.slice X1 k1 g1, .slice X2 k2 g2]))) ∧ Bel W w' := by
  have hA : Calls Try.prog 22 #[val, lv] W fun r w' => AppIs W d l r w' ∧ Bel W w' := by
    by_cases hl : 60 < l.length
    · exact appendLong_any d val lv l W hv (Dk.ok_of h.err) hlv hl
    · exact append_any d val lv l W hv (Dk.ok_of h.err) hlv (by omega)
  refine hA.mono fun r w' hp => ?_
  obtain ⟨⟨v, wv, hr, h1, h2⟩, hb⟩ := hp
  refine ⟨?_, hb⟩
  by_cases h0 : appErr d l = 0
  · obtain ⟨hl, t, u, h4, hF, hW⟩ := h.next hi h0
    obtain ⟨k1, k2⟩ := h2 h0 t u bs h4
    have kr := RwD.of k1 (Dk.err_small hF.err).1 (Dk.err_small hF.err).2
    have kw := RwW.of k2 hW
    have kn := ways_len d.kept t u l
    obtain ⟨X1, g1, X2, g2, rfl, -, -⟩ := k1.lit
    obtain ⟨ps, ho, -, -⟩ := id kw
    obtain ⟨A, c, rfl, -, -⟩ := own_lit ho
    exact ⟨X1, _, g1, X2, _, g2, A, _, c, _, hr, by omega, kr, kw, fun _ => ⟨hl, _, rfl, rfl, hF, k1.base hB⟩⟩
  · obtain ⟨rfl, rfl⟩ := h1 h0
    exact ⟨none, 0, 0, none, 0, 0, none, 0, 0, _, hr, by omega, RwD.empty _ _, RwW.nil _ _, fun he => absurd he h0⟩

theorem evs_cells : ∀ {w : World} {b o : Nat} {xs : List Ev}, (∀ k x, xs[k]? = some x → evR.At w b (o + k * evR.size) x) → CellsAt w b o (evC xs)
  | _, _, _, [], _ => fun j u hu => by simp [evC] at hu
  | w, b, o, x :: xs, h => by
    obtain ⟨cs, hc, hcs⟩ := h 0 x rfl
    have e : cs = x.cells := hc
    subst e
    have hx : ∀ k y, xs[k]? = some y → evR.At w b (o + 6 + k * evR.size) y := fun k y hy => by
      have := h (k + 1) y (by simpa using hy)
      rwa [show o + (k + 1) * evR.size = o + 6 + k * evR.size by simp only [evR]; omega] at this
    have ih := evs_cells hx
    intro j u hu
    unfold evC at hu
    rw [List.flatMap_cons] at hu
    by_cases hj : j < 6
    · rw [List.getElem?_append_left (by simpa [Ev.cells] using hj)] at hu
      have := hcs j u hu
      simpa using this
    · rw [List.getElem?_append_right (by simp [Ev.cells]; omega)] at hu
      have := ih (j - (Ev.cells x).length) u hu
      rw [show (Ev.cells x).length = 6 from rfl] at this
      rwa [show o + 6 + (j - 6) = o + j by omega] at this
theorem evs_one (xs : List Ev) : ∀ u ∈ evC xs, u.oneCell' = true := by
  intro u hu
  obtain ⟨x, _, hx⟩ := List.mem_flatMap.1 hu
  simp only [Ev.cells, List.mem_cons, List.not_mem_nil, or_false] at hx
  rcases hx with rfl | rfl | rfl | rfl | rfl | rfl <;> rfl
theorem evC_len (xs : List Ev) : (evC xs).length = xs.length * 6 := by
  induction xs with
  | nil => rfl
  | cons x xs ih => rw [show evC (x :: xs) = x.cells ++ evC xs from List.flatMap_cons, List.length_append, ih, List.length_cons, show x.cells.length = 6 from rfl]; omega
theorem evC_app (xs ys : List Ev) : evC (xs ++ ys) = evC xs ++ evC ys := List.flatMap_append
theorem Sl.evsA {w : World} {A : Option Addr} {n c : Nat} {l : List Ev} (h : Sl evR w (.slice A n c) l) : (A = none → c = 0) ∧ (0 < l.length → ∃ b o, A = some ⟨b, o, none⟩ ∧ CellsAt w b o (evC l)) := by
  obtain ⟨A', c', e, -, h2, h3⟩ := h
  injection e with e1 _ e3
  subst e1
  subst e3
  refine ⟨h2.2, fun hp => ?_⟩
  obtain ⟨b, o, h4, h5⟩ := h3 hp
  exact ⟨b, o, h4, evs_cells h5⟩

/-- a variable that holds a disk whose rows are the call's own -/
def HoldO (W : World) (T B : Nat) (d : Dk) : Prop := ∃ A1 c1 A2 c2, Blk W T 25 #[.slice A1 d.kept.length c1, .slice A2 d.written.length c2] ∧ DkO W B d (.agg #[.slice A1 d.kept.length c1, .slice A2 d.written.length c2])
theorem HoldO.keep {W W' : World} (hb : Bel W W') {T B : Nat} {d : Dk} (h : HoldO W T B d) : HoldO W' T B d := by
  obtain ⟨A1, c1, A2, c2, h1, h2⟩ := h
  exact ⟨A1, c1, A2, c2, h1.keep hb, h2.keep hb⟩
theorem HoldO.lt {W : World} {T B : Nat} {d : Dk} (h : HoldO W T B d) : T < W.heap.size := by
  obtain ⟨_, _, _, _, h1, _⟩ := h
  exact h1.lt
theorem HoldO.new {W : World} {B : Nat} {d : Dk} {A1 A2 : Option Addr} {c1 c2 : Nat} (h : DkO W B d (.agg #[.slice A1 d.kept.length c1, .slice A2 d.written.length c2])) : HoldO (W.alloc (.cells #[.slice A1 d.kept.length c1, .slice A2 d.written.length c2] 25)) W.heap.size B d :=
  ⟨A1, c1, A2, c2, Blk.new _ _ _, h.keep ((Bel.rfl_ W).al _)⟩
theorem HoldO.set {W : World} {R B : Nat} {d e : Dk} (hR : HoldO W R B e) {B1 B2 : Option Addr} {f1 f2 : Nat} (hv : DkO W B d (.agg #[.slice B1 d.kept.length f1, .slice B2 d.written.length f2])) : HoldO ((W.setCell ⟨R, 0, none⟩ (.slice B1 d.kept.length f1)).setCell ⟨R, 1, none⟩ (.slice B2 d.written.length f2)) R B d := by
  obtain ⟨A1, c1, A2, c2, h1, h2⟩ := hR
  exact ⟨B1, f1, B2, f2, two_set h1, hv.two h1 _ _⟩
theorem HoldO.grown {w w' : World} {T B : Nat} {d : Dk} (h : HoldO w T B d) {base : Nat} {size n : Nat} {u : Value} {xs : List Value} (hu : w.ownsRow base 81 size u n xs) (hg : w.grownBy w' u.ownBlock) : HoldO w' T B d := by
  obtain ⟨A1, c1, A2, c2, h1, h2⟩ := h
  exact ⟨A1, c1, A2, c2, h1.grown hg (h1.ne_own hu (by decide)), h2.grown hu (by decide) (by decide) hg⟩

end Go.Proofs.Ytkojeofegoljpaa
