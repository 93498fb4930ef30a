/- Flush and Crash walked. Each lemma states its own conditions. -/
import Derived.Test.YtkojeofegoljpaaDskH
namespace Go.Proofs.Ytkojeofegoljpaa
open Go.RowKit

def Dk.flushed (d : Dk) : Dk := if d.err = 0 then ⟨crs (fun _ => true) 0 d.written d.kept, []⟩ else noDk
def Dk.crashed (d : Dk) (l : List Bool) : Dk := if d.err = 0 then ⟨crs (kb l) 0 d.written d.kept, []⟩ else noDk

set_option maxRecDepth 20000 in
set_option maxHeartbeats 1000000 in
theorem flush_any (d : Dk) (val : Value) (w : World) (h : DkV w d val) (ho : d.ok) :
    Calls Try.prog 11 #[val] w fun r w' => ∃ val', r = .returned (.tuple #[val', .int .i64 d.err]) ∧ DkV w' d.flushed val' ∧ Bel w w' := by
  have HC := Lib.hid (fun W (hb : Bel w W) => check_any d val W (h.keep hb) ho)
  have HP := Lib.hid (fun W (hb : Bel w W) (hz : d.err = 0) => keep0_any d val W (h.keep hb) hz)
  have HU : Hid ((if d.err = 0 then ⟨crs (fun _ => true) 0 d.written d.kept, []⟩ else noDk) = d.flushed) := Lib.hid rfl
  generalize d.flushed = U at *
  generalize (⟨crs (fun _ => true) 0 d.written d.kept, []⟩ : Dk) = P at *
  obtain ⟨A1, c1, A2, c2, rfl, h1, h2⟩ := h
  clear h1 h2 ho
  generalize d.err = E at *
  generalize d.kept.length = m at *
  generalize d.written.length = k at *
  have hr : Try.f11.results = #[.cell 2 25, .tmp 3] := rfl
  go_enter Try.func11, Try.ntmps11
  go_wp2_with fail
  have hW0 : Bel w ((w.alloc (.cells #[.slice A1 m c1, .slice A2 k c2] 25)).alloc (.cells #[.slice none 0 0, .slice none 0 0] 25)) := ((Bel.rfl_ w).al _).al _
  have hQ := ((Blk.new w 25 #[.slice A1 m c1, .slice A2 k c2]).keep ((Bel.rfl_ _).al (.cells #[.slice none 0 0, .slice none 0 0] 25)))
  have hR := Blk.new (w.alloc (.cells #[.slice A1 m c1, .slice A2 k c2] 25)) 25 #[.slice none 0 0, .slice none 0 0]
  rw [World.size_alloc] at hR
  refine (HC.out _ hW0).mono ?_
  rintro r w1 ⟨rfl, hb⟩
  have q0 : w1.cell? ⟨w.heap.size, 0, none⟩ = some (.slice A1 m c1) := (hQ.keep hb).cell (i := 0) rfl
  have q1 : w1.cell? ⟨w.heap.size, 1, none⟩ = some (.slice A2 k c2) := (hQ.keep hb).cell (i := 1) rfl
  have hR1 := hR.keep hb
  have d0 : w1.cell? ⟨w.heap.size + 1, 0, none⟩ = some (.slice none 0 0) := hR1.cell (i := 0) rfl
  have d1 : w1.cell? ⟨w.heap.size + 1, 1, none⟩ = some (.slice none 0 0) := hR1.cell (i := 1) rfl
  have e0 := hR1.frozen 0
  have e1 := hR1.frozen 1
  have HR1 := Lib.hid hR1
  have HB := Lib.hid (hW0.tr hb)
  clear hW0 hQ hR hb hR1 HC
  by_cases hE : E = 0
  · rw [if_pos hE] at HU
    go_wp2_with fail
    refine (HP.out _ HB.out hE).mono ?_
    rintro r w2 ⟨v2, rfl, hd2, hb2⟩
    have hR2 := HR1.out.keep hb2
    have d0 : w2.cell? ⟨w.heap.size + 1, 0, none⟩ = some (.slice none 0 0) := hR2.cell (i := 0) rfl
    have d1 : w2.cell? ⟨w.heap.size + 1, 1, none⟩ = some (.slice none 0 0) := hR2.cell (i := 1) rfl
    have e0 := hR2.frozen 0
    have e1 := hR2.frozen 1
    have HR2 := Lib.hid hR2
    have HB2 := Lib.hid (HB.out.tr hb2)
    have HDK := Lib.hid hd2
    obtain ⟨B1, f1, B2, f2, rfl, -, -⟩ := hd2
    clear hR2 hb2
    go_wp2
    have z0 := (two_set (a := .slice B1 P.kept.length f1) (b := .slice B2 P.written.length f2) HR2.out).cell (i := 0) rfl
    have z1 := (two_set (a := .slice B1 P.kept.length f1) (b := .slice B2 P.written.length f2) HR2.out).cell (i := 1) rfl
    have hbl := (HB2.out.setCell (p := ⟨w.heap.size + 1, 0, none⟩) (by dsimp only; omega) (.slice B1 P.kept.length f1)).setCell (p := ⟨w.heap.size + 1, 1, none⟩) (by dsimp only; omega) (.slice B2 P.written.length f2)
    exact bodyPost_ret (v := .tuple #[.agg #[.slice B1 P.kept.length f1, .slice B2 P.written.length f2], .int .i64 0]) (by simp [results, z0, z1, go_sem]) rfl ⟨_, by rw [hE], by rw [← HU.out]; exact HDK.out.aside HR2.out _ _ _ _ _ _, hbl⟩
  · rw [if_neg hE] at HU
    go_wp2
    have z0 := (two_set (a := .slice none 0 0) (b := .slice none 0 0) HR1.out).cell (i := 0) rfl
    have z1 := (two_set (a := .slice none 0 0) (b := .slice none 0 0) HR1.out).cell (i := 1) rfl
    have hbl := (HB.out.setCell (p := ⟨w.heap.size + 1, 0, none⟩) (by dsimp only; omega) (.slice none 0 0)).setCell (p := ⟨w.heap.size + 1, 1, none⟩) (by dsimp only; omega) (.slice none 0 0)
    exact bodyPost_ret (v := .tuple #[.agg #[.slice none 0 0, .slice none 0 0], .int .i64 E]) (by simp [results, z0, z1, go_sem]) rfl ⟨_, rfl, by rw [← HU.out]; exact DkV.empty _, hbl⟩

set_option maxRecDepth 20000 in
set_option maxHeartbeats 1000000 in
theorem crash_any (d : Dk) (val : Value) (kv : Value) (l : List Bool) (w : World) (h : DkV w d val) (ho : d.ok) (hks : Sl boolR w kv l) (hkl : l.length ≤ 140737488351232) :
    Calls Try.prog 12 #[val, kv] w fun r w' => ∃ val', r = .returned (.tuple #[val', .int .i64 d.err]) ∧ DkV w' (d.crashed l) val' ∧ Bel w w' := by
  have HC := Lib.hid (fun W (hb : Bel w W) => check_any d val W (h.keep hb) ho)
  have HP := Lib.hid (fun W (hb : Bel w W) (K : Nat) (hK : W.cell? ⟨K, 0, none⟩ = some kv) (hz : d.err = 0) => keep1_any d val K kv l W (h.keep hb) hz hK (hks.keep hb) hkl)
  have HU : Hid ((if d.err = 0 then ⟨crs (kb l) 0 d.written d.kept, []⟩ else noDk) = d.crashed l) := Lib.hid rfl
  generalize d.crashed l = U at *
  generalize (⟨crs (kb l) 0 d.written d.kept, []⟩ : Dk) = P at *
  obtain ⟨A3, c3, rfl, -⟩ := hks
  obtain ⟨A1, c1, A2, c2, rfl, h1, h2⟩ := h
  clear h1 h2 ho
  generalize d.err = E at *
  generalize d.kept.length = m at *
  generalize d.written.length = k at *
  have hr : Try.f12.results = #[.cell 4 25, .tmp 5] := rfl
  go_enter Try.func12, Try.ntmps12
  go_wp2_with fail
  have hW0 : Bel w (((w.alloc (.cells #[.slice A1 m c1, .slice A2 k c2] 25)).alloc (.cells #[.slice A3 l.length c3] 26)).alloc (.cells #[.slice none 0 0, .slice none 0 0] 25)) := (((Bel.rfl_ w).al _).al _).al _
  have hQ := ((Blk.new w 25 #[.slice A1 m c1, .slice A2 k c2]).keep (((Bel.rfl_ _).al (.cells #[.slice A3 l.length c3] 26)).al (.cells #[.slice none 0 0, .slice none 0 0] 25)))
  have hK := (Blk.new (w.alloc (.cells #[.slice A1 m c1, .slice A2 k c2] 25)) 26 #[.slice A3 l.length c3]).keep ((Bel.rfl_ _).al (.cells #[.slice none 0 0, .slice none 0 0] 25))
  rw [World.size_alloc] at hK
  have hR := Blk.new ((w.alloc (.cells #[.slice A1 m c1, .slice A2 k c2] 25)).alloc (.cells #[.slice A3 l.length c3] 26)) 25 #[.slice none 0 0, .slice none 0 0]
  rw [World.size_alloc, World.size_alloc] at hR
  refine (HC.out _ hW0).mono ?_
  rintro r w1 ⟨rfl, hb⟩
  have q0 : w1.cell? ⟨w.heap.size, 0, none⟩ = some (.slice A1 m c1) := (hQ.keep hb).cell (i := 0) rfl
  have q1 : w1.cell? ⟨w.heap.size, 1, none⟩ = some (.slice A2 k c2) := (hQ.keep hb).cell (i := 1) rfl
  have HK0 : Hid (w1.cell? ⟨w.heap.size + 1, 0, none⟩ = some (.slice A3 l.length c3)) := Lib.hid ((hK.keep hb).cell (i := 0) rfl)
  have hR1 := hR.keep hb
  have d0 : w1.cell? ⟨w.heap.size + 2, 0, none⟩ = some (.slice none 0 0) := hR1.cell (i := 0) rfl
  have d1 : w1.cell? ⟨w.heap.size + 2, 1, none⟩ = some (.slice none 0 0) := hR1.cell (i := 1) rfl
  have e0 := hR1.frozen 0
  have e1 := hR1.frozen 1
  have HR1 := Lib.hid hR1
  have HB := Lib.hid (hW0.tr hb)
  clear hW0 hQ hR hb hR1 HC hK
  by_cases hE : E = 0
  · rw [if_pos hE] at HU
    go_wp2_with fail
    refine (HP.out _ HB.out _ HK0.out hE).mono ?_
    rintro r w2 ⟨v2, rfl, hd2, hb2⟩
    have hR2 := HR1.out.keep hb2
    have d0 : w2.cell? ⟨w.heap.size + 2, 0, none⟩ = some (.slice none 0 0) := hR2.cell (i := 0) rfl
    have d1 : w2.cell? ⟨w.heap.size + 2, 1, none⟩ = some (.slice none 0 0) := hR2.cell (i := 1) rfl
    have e0 := hR2.frozen 0
    have e1 := hR2.frozen 1
    have HR2 := Lib.hid hR2
    have HB2 := Lib.hid (HB.out.tr hb2)
    have HDK := Lib.hid hd2
    obtain ⟨B1, f1, B2, f2, rfl, -, -⟩ := hd2
    clear hR2 hb2
    go_wp2
    have z0 := (two_set (a := .slice B1 P.kept.length f1) (b := .slice B2 P.written.length f2) HR2.out).cell (i := 0) rfl
    have z1 := (two_set (a := .slice B1 P.kept.length f1) (b := .slice B2 P.written.length f2) HR2.out).cell (i := 1) rfl
    have hbl := (HB2.out.setCell (p := ⟨w.heap.size + 2, 0, none⟩) (by dsimp only; omega) (.slice B1 P.kept.length f1)).setCell (p := ⟨w.heap.size + 2, 1, none⟩) (by dsimp only; omega) (.slice B2 P.written.length f2)
    exact bodyPost_ret (v := .tuple #[.agg #[.slice B1 P.kept.length f1, .slice B2 P.written.length f2], .int .i64 0]) (by simp [results, z0, z1, go_sem]) rfl ⟨_, by rw [hE], by rw [← HU.out]; exact HDK.out.aside HR2.out _ _ _ _ _ _, hbl⟩
  · rw [if_neg hE] at HU
    go_wp2
    have z0 := (two_set (a := .slice none 0 0) (b := .slice none 0 0) HR1.out).cell (i := 0) rfl
    have z1 := (two_set (a := .slice none 0 0) (b := .slice none 0 0) HR1.out).cell (i := 1) rfl
    have hbl := (HB.out.setCell (p := ⟨w.heap.size + 2, 0, none⟩) (by dsimp only; omega) (.slice none 0 0)).setCell (p := ⟨w.heap.size + 2, 1, none⟩) (by dsimp only; omega) (.slice none 0 0)
    exact bodyPost_ret (v := .tuple #[.agg #[.slice none 0 0, .slice none 0 0], .int .i64 E]) (by simp [results, z0, z1, go_sem]) rfl ⟨_, rfl, by rw [← HU.out]; exact DkV.empty _, hbl⟩

end Go.Proofs.Ytkojeofegoljpaa
