/- A disk formatted: walked. Each lemma states its own conditions. -/
import Derived.Test.YtkojeofegoljpaaLogK
namespace Go.Proofs.Ytkojeofegoljpaa
open Go.RowKit

set_option maxRecDepth 20000 in
set_option maxHeartbeats 1000000 in
theorem newO_any (n : Int) (w : World) : Calls Try.prog 8 #[.int .i64 n] w fun r w' => ∃ val', r = .returned (.tuple #[val', .int .i64 (newErr n)]) ∧ DkO w' w.heap.size (newDk n) val' ∧ Bel w w' := by
  have HE : Hid ((if 1 ≤ n ∧ n ≤ 600 then (0 : Int) else 3) = newErr n) := Lib.hid rfl
  have HU : Hid ((if 1 ≤ n ∧ n ≤ 600 then ⟨List.replicate n.toNat (sec 0), []⟩ else noDk) = newDk n) := Lib.hid rfl
  generalize newErr n = E at *
  generalize newDk n = U at *
  have hr : Try.f8.results = #[.cell 2 25, .tmp 3] := rfl
  have HRR := Lib.hid (Blk.new w 25 #[.slice none 0 0, .slice none 0 0])
  by_cases hn : 1 ≤ n ∧ n ≤ 600
  · rw [if_pos hn] at HE HU
    obtain ⟨hn1, hn2⟩ := hn
    obtain ⟨m, rfl⟩ : ∃ m : Nat, n = m := ⟨n.toNat, by omega⟩
    rw [Int.toNat_natCast] at HU
    have hm1 : 1 ≤ m := by omega
    have hm2 : m ≤ 600 := by omega
    have HB := Lib.hid blank_any
    have HRP := Lib.hid (fun b o W hc => repeatS_any (sec 0) m b o W hc hm1 hm2)
    generalize sec 0 = S at *
    go_enter Try.func8, Try.ntmps8
    go_wp2_with fail
    refine (HB.out _).mono ?_
    rintro r w1 ⟨rfl, hb1⟩
    have HB1 := Lib.hid hb1
    have hc1 := (Blk.new w1 9 #[.string S]).cell (i := 0) (v := .string S) rfl
    clear hb1
    go_wp2_with fail
    refine (HRP.out _ _ _ hc1).mono ?_
    rintro r w2 ⟨rfl, hg2, hb2⟩
    have hb02 := (Bel.tr HB1.out ((Bel.rfl_ w1).al (.cells #[.string S] 9))).tr hb2
    have HR2 := Lib.hid (HRR.out.keep hb02)
    have HG2 := Lib.hid hg2
    have HB2 := Lib.hid (((Bel.rfl_ w).al (.cells #[.slice none 0 0, .slice none 0 0] 25)).tr hb02)
    have d0 := HR2.out.cell (i := 0) rfl
    have d1 := HR2.out.cell (i := 1) rfl
    have e0 := HR2.out.frozen 0
    have e1 := HR2.out.frozen 1
    rw [World.size_alloc] at HG2
    clear hb02 hg2 hb2 hc1
    go_wp2
    have z0 := (two_set (a := .slice (some ⟨w1.heap.size + 1, 0, none⟩) m m) (b := .slice none 0 0) HR2.out).cell (i := 0) rfl
    have z1 := (two_set (a := .slice (some ⟨w1.heap.size + 1, 0, none⟩) m m) (b := .slice none 0 0) HR2.out).cell (i := 1) rfl
    have hbl := (HB2.out.setCell (p := ⟨w.heap.size, 0, none⟩) (by dsimp only; omega) (.slice (some ⟨w1.heap.size + 1, 0, none⟩) m m)).setCell (p := ⟨w.heap.size, 1, none⟩) (by dsimp only; omega) (.slice none 0 0)
    refine bodyPost_ret (v := .tuple #[.agg #[.slice (some ⟨w1.heap.size + 1, 0, none⟩) m m, .slice none 0 0], .int .i64 0]) (by simp [results, z0, z1, go_sem]) rfl ⟨_, by rw [← HE.out], ?_, hbl⟩
    rw [← HU.out]
    have hrow : w2.ownsRow w.heap.size 9 1 (.slice (some ⟨w1.heap.size + 1, 0, none⟩) m m) (List.replicate m S).length ((List.replicate m S).map Value.string) := by
      rw [List.length_replicate]
      exact ⟨by simp, .inr ⟨_, m, _, rfl, by have := HB1.out.size; rw [World.size_alloc] at this; omega, HG2.out, Nat.le_refl _, by simp only [maxLen]; omega, by simp, by simp⟩⟩
    exact ⟨_, _, rfl, own_aside (own_aside hrow HR2.out (by decide) 0 _) (HR2.out.set_ 0 _) (by decide) 1 _, World.ownsRow_nil _ _ _ _⟩
  · rw [if_neg hn] at HE HU
    have d0 := HRR.out.cell (i := 0) rfl
    have d1 := HRR.out.cell (i := 1) rfl
    have e0 := HRR.out.frozen 0
    have e1 := HRR.out.frozen 1
    have z0 := HRR.out.cell (i := 0) rfl
    have z1 := HRR.out.cell (i := 1) rfl
    have hbl := (Bel.rfl_ w).al (.cells #[.slice none 0 0, .slice none 0 0] 25)
    have HBL := Lib.hid hbl
    have HZ0 := Lib.hid z0
    have HZ1 := Lib.hid z1
    clear hbl z0 z1
    by_cases h1 : n < 1
    · go_enter Try.func8, Try.ntmps8
      go_wp2
      have z0 := HZ0.out
      have z1 := HZ1.out
      exact bodyPost_ret (v := .tuple #[.agg #[.slice none 0 0, .slice none 0 0], .int .i64 3]) (by simp [results, z0, z1, go_sem]) rfl ⟨_, by rw [← HE.out], by rw [← HU.out]; exact ⟨_, _, rfl, World.ownsRow_nil _ _ _ _, World.ownsRow_nil _ _ _ _⟩, HBL.out⟩
    · have h2 : 600 < n := by omega
      go_enter Try.func8, Try.ntmps8
      go_wp2
      have z0 := HZ0.out
      have z1 := HZ1.out
      exact bodyPost_ret (v := .tuple #[.agg #[.slice none 0 0, .slice none 0 0], .int .i64 3]) (by simp [results, z0, z1, go_sem]) rfl ⟨_, by rw [← HE.out], by rw [← HU.out]; exact ⟨_, _, rfl, World.ownsRow_nil _ _ _ _, World.ownsRow_nil _ _ _ _⟩, HBL.out⟩

def fmtErr (n : Int) : Int := if n < 4 then 3 else newErr n
def fmtDk (n : Int) : Dk := if 4 ≤ n ∧ n ≤ 600 then ⟨secS 1001 [0, 2] :: List.replicate (n.toNat - 1) (sec 0), []⟩ else noDk

set_option maxRecDepth 20000 in
set_option maxHeartbeats 1000000 in
theorem format_any (n : Int) (w : World) : Calls Try.prog 26 #[.int .i64 n] w fun r w' => ∃ val', r = .returned (.tuple #[val', .int .i64 (fmtErr n)]) ∧ DkO w' w.heap.size (fmtDk n) val' ∧ Bel w w' := by
  have hr : Try.f26.results = #[.cell 2 25, .tmp 3] := rfl
  have HNEW := Lib.hid (fun W => newO_any n W)
  have HSEC2 := Lib.hid (fun b (x y : Int) W (h : Blk W b 3 #[.int .i64 x, .int .i64 y]) => lsector_any b 1001 [x, y] (by simp) W h)
  have HR := Lib.hid (Blk.new w 25 #[.slice none 0 0, .slice none 0 0])
  have HB := Lib.hid ((Bel.rfl_ w).al (.cells #[.slice none 0 0, .slice none 0 0] 25))
  by_cases h4 : n < 4
  · have HE : Hid (fmtErr n = 3) := Lib.hid (by rw [fmtErr, if_pos h4])
    have HU : Hid (fmtDk n = noDk) := Lib.hid (by rw [fmtDk, if_neg (by omega)])
    have z0 := HR.out.cell (i := 0) (v := .slice none 0 0) rfl
    have z1 := HR.out.cell (i := 1) (v := .slice none 0 0) rfl
    have rf0 := HR.out.frozen 0
    have rf1 := HR.out.frozen 1
    go_enter Try.func26, Try.ntmps26
    go_wp2
    exact bodyPost_ret (v := .tuple #[.agg #[.slice none 0 0, .slice none 0 0], .int .i64 3]) (by simp [results, z0, z1, go_sem]) rfl ⟨_, by rw [HE.out], by rw [HU.out]; exact ⟨_, _, rfl, World.ownsRow_nil _ _ _ _, World.ownsRow_nil _ _ _ _⟩, HB.out⟩
  · have HE : Hid (fmtErr n = newErr n) := Lib.hid (by rw [fmtErr, if_neg h4])
    by_cases h6 : 600 < n
    · have HN : Hid (newErr n = 3) := Lib.hid (by rw [newErr, if_neg (by omega)])
      have HU : Hid (fmtDk n = noDk) := Lib.hid (by rw [fmtDk, if_neg (by omega)])
      have HND : Hid (newDk n = noDk) := Lib.hid (by rw [newDk, if_neg (by omega)])
      go_enter Try.func26, Try.ntmps26
      go_wp2_with fail
      refine (HNEW.out _).mono ?_
      rintro r w1 ⟨v1, rfl, hd1, hb1⟩
      rw [HN.out]
      rw [HND.out] at hd1
      obtain ⟨A1, c1, A2, c2, rfl, -, -⟩ := hd1.lit
      have hR1 := (HR.out.keep hb1).keep ((Bel.rfl_ w1).al (.cells #[.slice A1 noDk.kept.length c1, .slice A2 noDk.written.length c2] 25))
      have HB1 := Lib.hid ((HB.out.tr hb1).al (.cells #[.slice A1 noDk.kept.length c1, .slice A2 noDk.written.length c2] 25))
      have r0 := hR1.cell (i := 0) (v := .slice none 0 0) rfl
      have r1 := hR1.cell (i := 1) (v := .slice none 0 0) rfl
      have rf0 := hR1.frozen 0
      have rf1 := hR1.frozen 1
      have HR1 := Lib.hid hR1
      clear hd1 hb1 hR1
      generalize noDk.kept.length = k0 at *
      generalize noDk.written.length = k1 at *
      go_wp2
      have hs5 := two_set (a := .slice none 0 0) (b := .slice none 0 0) HR1.out
      have z0 := hs5.cell (i := 0) (v := .slice none 0 0) rfl
      have z1 := hs5.cell (i := 1) (v := .slice none 0 0) rfl
      have hbl := (HB1.out.setCell (p := ⟨w.heap.size, 0, none⟩) (Nat.le_refl _) (.slice none 0 0)).setCell (p := ⟨w.heap.size, 1, none⟩) (Nat.le_refl _) (.slice none 0 0)
      exact bodyPost_ret (v := .tuple #[.agg #[.slice none 0 0, .slice none 0 0], .int .i64 3]) (by simp [results, z0, z1, go_sem]) rfl ⟨_, by rw [HE.out, HN.out], by rw [HU.out]; exact ⟨_, _, rfl, World.ownsRow_nil _ _ _ _, World.ownsRow_nil _ _ _ _⟩, hbl⟩
    · have HN : Hid (newErr n = 0) := Lib.hid (by rw [newErr, if_pos (by omega)])
      obtain ⟨m, rfl⟩ : ∃ m : Nat, n = m := ⟨n.toNat, by omega⟩
      have HU : Hid (fmtDk m = ⟨secS 1001 [0, 2] :: List.replicate (m - 1) (sec 0), []⟩) := Lib.hid (by rw [fmtDk, if_pos (by omega), Int.toNat_natCast])
      have HND : Hid (newDk m = ⟨List.replicate m (sec 0), []⟩) := Lib.hid (by rw [newDk, if_pos (by omega), Int.toNat_natCast])
      have hm4 : 4 ≤ m := by omega
      have hm6 : m ≤ 600 := by omega
      go_enter Try.func26, Try.ntmps26
      go_wp2_with fail
      refine (HNEW.out _).mono ?_
      rintro r w1 ⟨v1, rfl, hd1, hb1⟩
      rw [HN.out]
      rw [HND.out] at hd1
      obtain ⟨v2, v3, rfl, ho1, ho2⟩ := hd1
      simp only [List.length_replicate, List.length_nil] at ho1 ho2
      obtain ⟨g, cap, rfl⟩ := ownsRow_some ho1 (by omega)
      have hv3 : v3 = .slice none 0 0 ∨ ∃ g c, v3 = .slice (some ⟨g, 0, none⟩) 0 c := by
        rcases ho2.2 with ⟨rfl, _⟩ | ⟨g, c, _, rfl, _⟩
        · exact .inl rfl
        · exact .inr ⟨g, c, rfl⟩
      obtain ⟨A3, c3, rfl⟩ : ∃ A c, v3 = .slice A 0 c := by
        rcases hv3 with rfl | ⟨g, c, rfl⟩ <;> exact ⟨_, _, rfl⟩
      clear hv3
      have hal := (Bel.rfl_ w1).al (.cells #[.slice (some ⟨g, 0, none⟩) m cap, .slice A3 0 c3] 25)
      have HR1 := Lib.hid ((HR.out.keep hb1).keep hal)
      have HB1 := Lib.hid ((HB.out.tr hb1).tr hal)
      have HV1 := Lib.hid (Blk.new w1 25 #[.slice (some ⟨g, 0, none⟩) m cap, .slice A3 0 c3])
      have hbs := hb1.size
      rw [World.size_alloc] at hbs
      have HO1 := Lib.hid (own_base (base' := w.heap.size) (hal.own ho1) (by simp))
      have HO2 := Lib.hid (own_base (base' := w.heap.size) (hal.own ho2) (by simp))
      have HGV : Hid (w.heap.size < g ∧ g < w1.heap.size) := Lib.hid (by have := ho1.lt g rfl; rw [World.size_alloc] at this; omega)
      clear hal ho1 ho2 hb1
      go_upto_region 6 with fail
      have hgl := HGV.out
      have hne : ¬ w1.heap.size = g := by omega
      have hne2 : ¬ w.heap.size = g := by omega
      have HNE := Lib.hid hne
      have HNE2 := Lib.hid hne2
      have HW1 := Lib.hid (Bel.rfl_ (w1.alloc (.cells #[.slice (some ⟨g, 0, none⟩) m cap, .slice A3 0 c3] 25)))
      have HSZV : Hid (w1.heap.size < (w1.alloc (.cells #[.slice (some ⟨g, 0, none⟩) m cap, .slice A3 0 c3] 25)).heap.size) := Lib.hid (by simp)
      generalize w1.alloc (.cells #[.slice (some ⟨g, 0, none⟩) m cap, .slice A3 0 c3] 25) = W1 at *
      generalize w1.heap.size = V at *
      have v0 := HV1.out.cell (i := 0) (v := .slice (some ⟨g, 0, none⟩) m cap) rfl
      have v0a := ((Bel.rfl_ W1).al (.cells #[.int .i64 0, .int .i64 2] 3)).cell v0
      go_cut [] (fun wx => Hid (Blk wx V 25 #[.slice (some ⟨g, 0, none⟩) m cap, .slice A3 0 c3]) ∧ Hid (Blk wx w.heap.size 25 #[.slice none 0 0, .slice none 0 0]) ∧ Hid (wx.ownsRow w.heap.size 9 1 (.slice (some ⟨g, 0, none⟩) m cap) m ((secS 1001 [0, 2] :: List.replicate (m - 1) (sec 0)).map Value.string)) ∧ Hid (wx.ownsRow w.heap.size 71 2 (.slice A3 0 c3) 0 (wrCells [])) ∧ Hid (Bel w wx))
      case first =>
        have hm0 : 0 < m := by omega
        go_region_law (first
          | (go_simp; go_at_call 52; refine (HSEC2.out _ 0 2 _ ?_).mono ?_; (first | exact Blk.new _ _ _ | exact (Blk.new _ _ _).keep ((Bel.rfl_ _).dr)); rintro r w2 ⟨rfl, hb2⟩; have hbw : Bel W1 w2 := Bel.tr (by repeat (first | exact Bel.rfl_ _ | apply Bel.dr | apply Bel.al)) hb2; have HBW := Lib.hid hbw; have v02 := hbw.cell v0; obtain ⟨hc0, hf0⟩ := own_cell (hbw.own HO1.out) (i := 0) (u := .string (sec 0)) (by simp [hm0]); clear hb2 hbw))
        all_goals go_wp2
        all_goals go_meet
        all_goals
          have ho := (World.ownsRow.stored (HBW.out.own HO1.out) 0 (.string (secS 1001 [0, 2]))).1
          have hset : ((List.replicate m (sec 0)).map Value.string).set 0 (.string (secS 1001 [0, 2])) = (secS 1001 [0, 2] :: List.replicate (m - 1) (sec 0)).map Value.string := by
            obtain ⟨k, rfl⟩ : ∃ k, m = k + 1 := ⟨m - 1, by omega⟩
            simp [List.replicate_succ]
          rw [hset] at ho
          exact ⟨Lib.hid ((HV1.out.keep HBW.out).far2 HNE.out _ _), Lib.hid ((HR1.out.keep HBW.out).far2 HNE2.out _ _), Lib.hid ho, Lib.hid (World.ownsRow.kept (HBW.out.own HO2.out) (grown_cell w2 g 0 (.string (secS 1001 [0, 2]))) (rows_far (HBW.out.own HO2.out) (HBW.out.own HO1.out) (by decide))), Lib.hid ((HB1.out.tr HBW.out).setCell (p := ⟨g, 0, none⟩) (by dsimp only; have := HGV.out; omega) _)⟩
      case rest =>
      obtain ⟨HV2, HR2, HO3, HO4, HB2⟩ := hcut
      clear HV1 HR1 HO1 HO2 HB1
      have q0 := HV2.out.cell (i := 0) (v := .slice (some ⟨g, 0, none⟩) m cap) rfl
      have q1 := HV2.out.cell (i := 1) (v := .slice A3 0 c3) rfl
      have r0 := HR2.out.cell (i := 0) (v := .slice none 0 0) rfl
      have r1 := HR2.out.cell (i := 1) (v := .slice none 0 0) rfl
      have rf0 := HR2.out.frozen 0
      have rf1 := HR2.out.frozen 1
      go_wp2
      have hs5 := two_set (a := .slice (some ⟨g, 0, none⟩) m cap) (b := .slice A3 0 c3) HR2.out
      have z0 := hs5.cell (i := 0) (v := .slice (some ⟨g, 0, none⟩) m cap) rfl
      have z1 := hs5.cell (i := 1) (v := .slice A3 0 c3) rfl
      have hbl := (HB2.out.setCell (p := ⟨w.heap.size, 0, none⟩) (Nat.le_refl _) (.slice (some ⟨g, 0, none⟩) m cap)).setCell (p := ⟨w.heap.size, 1, none⟩) (Nat.le_refl _) (.slice A3 0 c3)
      refine bodyPost_ret (v := .tuple #[.agg #[.slice (some ⟨g, 0, none⟩) m cap, .slice A3 0 c3], .int .i64 0]) (by simp [results, z0, z1, go_sem]) rfl ⟨_, by rw [HE.out, HN.out], ?_, hbl⟩
      rw [HU.out]
      have hlen : (secS 1001 [0, 2] :: List.replicate (m - 1) (sec 0)).length = m := by simp; omega
      refine ⟨_, _, rfl, ?_, ?_⟩
      · rw [hlen]
        exact own_aside (own_aside HO3.out HR2.out (by decide) 0 _) (HR2.out.set_ 0 _) (by decide) 1 _
      · exact own_aside (own_aside HO4.out HR2.out (by decide) 0 _) (HR2.out.set_ 0 _) (by decide) 1 _

end Go.Proofs.Ytkojeofegoljpaa
