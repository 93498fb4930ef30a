/- Is one disk a step further than another one? walked. Each lemma states its own conditions. -/
import Derived.Test.YtkojeofegoljpaaLogW
namespace Go.Proofs.Ytkojeofegoljpaa
open Go.RowKit

theorem sameDk_no {a b : Dk} (h : a.written.length ≠ b.written.length) : sameDk a b = false := by
  unfold sameDk
  exact decide_eq_false fun e => h (by rw [e.2])

set_option maxRecDepth 20000 in
set_option maxHeartbeats 2000000 in
theorem isStep_flush (a b : Dk) (va vb : Value) (w : World) (ha : DkV w a va) (hb : DkV w b vb) (he : a.err = 0) (hst : b = a.flushed) :
    Calls Try.prog 57 #[va, vb] w fun r w' => r = .returned (.bool true) ∧ Bel w w' := by
  have HA := Lib.hid ha
  have HBB := Lib.hid hb
  obtain ⟨A1, c1, A2, c2, rfl, -, -⟩ := ha
  obtain ⟨B1, e1, B2, e2, rfl, -, -⟩ := hb
  have hW0 : Bel w ((w.alloc (.cells #[.slice A1 a.kept.length c1, .slice A2 a.written.length c2] 25)).alloc (.cells #[.slice B1 b.kept.length e1, .slice B2 b.written.length e2] 25)) := ((Bel.rfl_ w).al _).al _
  have hQ := (Blk.new w 25 #[.slice A1 a.kept.length c1, .slice A2 a.written.length c2]).keep ((Bel.rfl_ _).al (.cells #[.slice B1 b.kept.length e1, .slice B2 b.written.length e2] 25))
  have hR := Blk.new (w.alloc (.cells #[.slice A1 a.kept.length c1, .slice A2 a.written.length c2] 25)) 25 #[.slice B1 b.kept.length e1, .slice B2 b.written.length e2]
  rw [World.size_alloc] at hR
  have HB := Lib.hid hW0
  have HFA := Lib.hid (fun W (hb : Bel ((w.alloc (.cells #[.slice A1 a.kept.length c1, .slice A2 a.written.length c2] 25)).alloc (.cells #[.slice B1 b.kept.length e1, .slice B2 b.written.length e2] 25)) W) => And.intro ((hQ.keep hb).cell (i := 0) (v := .slice A1 a.kept.length c1) rfl) (And.intro ((hQ.keep hb).cell (i := 1) (v := .slice A2 a.written.length c2) rfl) (And.intro ((hR.keep hb).cell (i := 0) (v := .slice B1 b.kept.length e1) rfl) ((hR.keep hb).cell (i := 1) (v := .slice B2 b.written.length e2) rfl))))
  have HCR : Hid (∀ W, Bel ((w.alloc (.cells #[.slice A1 a.kept.length c1, .slice A2 a.written.length c2] 25)).alloc (.cells #[.slice B1 b.kept.length e1, .slice B2 b.written.length e2] 25)) W → Calls Try.prog 17 #[.agg #[.slice A1 a.kept.length c1, .slice A2 a.written.length c2], .slice none 0 0, .bool true] W fun r w' => ∃ val', r = .returned val' ∧ DkV w' a.flushed val' ∧ Bel W w') := Lib.hid (fun W hb => by
    rw [Dk.flushed, if_pos he]
    have := crashOf_any a _ (.slice none 0 0) [] true W (HA.out.keep (HB.out.tr hb)) he (Sl.nil_ _ _) (by simp)
    rw [kall_true] at this
    exact this)
  have HSM : Hid (∀ v W, DkV W a.flushed v → Bel ((w.alloc (.cells #[.slice A1 a.kept.length c1, .slice A2 a.written.length c2] 25)).alloc (.cells #[.slice B1 b.kept.length e1, .slice B2 b.written.length e2] 25)) W → Calls Try.prog 21 #[.agg #[.slice B1 b.kept.length e1, .slice B2 b.written.length e2], v] W fun r w' => r = .returned (.bool true) ∧ Bel W w') := Lib.hid (fun v W h1 hb => by
    have := sameDisk_any b a.flushed _ v W (HBB.out.keep (HB.out.tr hb)) h1
    rw [hst, sameDk_self] at this
    rw [hst]
    exact this)
  clear hQ hR hW0 hst he HA HBB
  go_enter Try.func57, Try.ntmps57
  go_upto_region 1 with fail
  generalize (w.alloc (.cells #[.slice A1 a.kept.length c1, .slice A2 a.written.length c2] 25)).alloc (.cells #[.slice B1 b.kept.length e1, .slice B2 b.written.length e2] 25) = W0 at *
  have hbX := Lib.hid (Bel.rfl_ W0)
  obtain ⟨q0, q1, r0, r1⟩ := HFA.out W0 (Bel.rfl_ W0)
  go_wp2_with fail
  go_region_held3 (fun w' => w'.cell? ⟨w.heap.size, 0, none⟩ = some (.slice A1 a.kept.length c1) ∧ w'.cell? ⟨w.heap.size, 1, none⟩ = some (.slice A2 a.written.length c2) ∧ w'.cell? ⟨w.heap.size + 1, 0, none⟩ = some (.slice B1 b.kept.length e1) ∧ w'.cell? ⟨w.heap.size + 1, 1, none⟩ = some (.slice B2 b.written.length e2))
    (first | exact HFA.out _ (by repeat (first | exact hbX.out | apply Bel.dr | apply Bel.al)))
    (first
      | (go_at_call 17; refine (HCR.out _ (by repeat (first | exact hbX.out | apply Bel.dr))).mono ?_; rintro r w2 ⟨v2, rfl, hd2, hb2⟩; have hbw : Bel W0 w2 := Bel.tr (by repeat (first | exact hbX.out | apply Bel.dr)) hb2; have hbX := Lib.hid hbw; have HD2 := Lib.hid hd2; clear hbw hb2 hd2)
      | (go_at_call 21; refine (HSM.out _ _ (HD2.out.keep (by repeat (first | exact Bel.rfl_ _ | apply Bel.dr))) (by repeat (first | exact hbX.out | apply Bel.dr))).mono ?_; rintro r w3 ⟨rfl, hb3⟩; have hbw : Bel W0 w3 := Bel.tr (by repeat (first | exact hbX.out | apply Bel.dr)) hb3; have hbX := Lib.hid hbw; clear hbw hb3))
  go_wp2
  go_ret
  exact ⟨rfl, HB.out.tr hbX.out⟩

set_option maxRecDepth 20000 in
set_option maxHeartbeats 4000000 in
theorem isStep_put (a b : Dk) (va vb : Value) (n : Int) (s : ByteArray) (w : World) (ha : DkV w a va) (hb : DkV w b vb) (he : a.err = 0) (hwr : a.wr n s = 0) (hst : b = a.put n s) :
    Calls Try.prog 57 #[va, vb] w fun r w' => r = .returned (.bool true) ∧ Bel w w' := by
  have HA := Lib.hid ha
  have HBB := Lib.hid hb
  obtain ⟨h1, hs32, -⟩ := wr_zero hwr
  obtain ⟨-, hn0, hn1⟩ := Dk.one_zero h1
  have hwl := (Dk.err_small he).2
  have hkl := (Dk.err_small he).1
  obtain ⟨A1, c1, A2, c2, rfl, -, -⟩ := ha
  obtain ⟨B1, e1, B2, e2, rfl, -, hsw⟩ := hb
  have hbl : b.written.length = a.written.length + 1 := by rw [hst]; show (a.written ++ [_]).length = _; rw [List.length_append, List.length_singleton]
  have hbk : b.kept.length = a.kept.length := by rw [hst]; rfl
  obtain ⟨bb, oo, rfl, hsA⟩ := hsw.at_ (by rw [hbl]; omega)
  obtain ⟨y0, y1⟩ := wrR.cells hsA (k := a.written.length) (x := ⟨n, s⟩) (by rw [hst]; show (a.written ++ [_])[a.written.length]? = _; rw [List.getElem?_append_right (Nat.le_refl _), Nat.sub_self]; rfl)
  have hW0 : Bel w ((w.alloc (.cells #[.slice A1 a.kept.length c1, .slice A2 a.written.length c2] 25)).alloc (.cells #[.slice B1 b.kept.length e1, .slice (some ⟨bb, oo, none⟩) b.written.length e2] 25)) := ((Bel.rfl_ w).al _).al _
  have hQ := (Blk.new w 25 #[.slice A1 a.kept.length c1, .slice A2 a.written.length c2]).keep ((Bel.rfl_ _).al (.cells #[.slice B1 b.kept.length e1, .slice (some ⟨bb, oo, none⟩) b.written.length e2] 25))
  have hR := Blk.new (w.alloc (.cells #[.slice A1 a.kept.length c1, .slice A2 a.written.length c2] 25)) 25 #[.slice B1 b.kept.length e1, .slice (some ⟨bb, oo, none⟩) b.written.length e2]
  rw [World.size_alloc] at hR
  have HB := Lib.hid hW0
  have HFA := Lib.hid (fun W (hb : Bel ((w.alloc (.cells #[.slice A1 a.kept.length c1, .slice A2 a.written.length c2] 25)).alloc (.cells #[.slice B1 b.kept.length e1, .slice (some ⟨bb, oo, none⟩) b.written.length e2] 25)) W) => And.intro ((hQ.keep hb).cell (i := 0) (v := .slice A1 a.kept.length c1) rfl) (And.intro ((hQ.keep hb).cell (i := 1) (v := .slice A2 a.written.length c2) rfl) (And.intro ((hR.keep hb).cell (i := 0) (v := .slice B1 b.kept.length e1) rfl) (And.intro ((hR.keep hb).cell (i := 1) (v := .slice (some ⟨bb, oo, none⟩) b.written.length e2) rfl) (And.intro ((hW0.tr hb).cell y0) ((hW0.tr hb).cell y1))))))
  have HCR : Hid (∀ W, Bel ((w.alloc (.cells #[.slice A1 a.kept.length c1, .slice A2 a.written.length c2] 25)).alloc (.cells #[.slice B1 b.kept.length e1, .slice (some ⟨bb, oo, none⟩) b.written.length e2] 25)) W → Calls Try.prog 17 #[.agg #[.slice A1 a.kept.length c1, .slice A2 a.written.length c2], .slice none 0 0, .bool true] W fun r w' => ∃ val', r = .returned val' ∧ DkV w' a.flushed val' ∧ Bel W w') := Lib.hid (fun W hb => by
    rw [Dk.flushed, if_pos he]
    have := crashOf_any a _ (.slice none 0 0) [] true W (HA.out.keep (HB.out.tr hb)) he (Sl.nil_ _ _) (by simp)
    rw [kall_true] at this
    exact this)
  have HSM : Hid (∀ v W, DkV W a.flushed v → Bel ((w.alloc (.cells #[.slice A1 a.kept.length c1, .slice A2 a.written.length c2] 25)).alloc (.cells #[.slice B1 b.kept.length e1, .slice (some ⟨bb, oo, none⟩) b.written.length e2] 25)) W → Calls Try.prog 21 #[.agg #[.slice B1 b.kept.length e1, .slice (some ⟨bb, oo, none⟩) b.written.length e2], v] W fun r w' => r = .returned (.bool false) ∧ Bel W w') := Lib.hid (fun v W h1 hb => by
    have := sameDisk_any b a.flushed _ v W (HBB.out.keep (HB.out.tr hb)) h1
    rw [sameDk_no (by rw [hbl, (Dk.flushed_of he).2.2]; simp)] at this
    exact this)
  have HWO : Hid (∀ W, Bel ((w.alloc (.cells #[.slice A1 a.kept.length c1, .slice A2 a.written.length c2] 25)).alloc (.cells #[.slice B1 b.kept.length e1, .slice (some ⟨bb, oo, none⟩) b.written.length e2] 25)) W → Calls Try.prog 16 #[.agg #[.slice A1 a.kept.length c1, .slice A2 a.written.length c2], .int .i64 n, .string s] W fun r w' => ∃ val', r = .returned val' ∧ DkV w' b val' ∧ Bel W w') := Lib.hid (fun W hb => by
    rw [hst]
    exact writeOf_any a _ n s W (HA.out.keep (HB.out.tr hb)) hwl)
  have HSM2 : Hid (∀ v W, DkV W b v → Bel ((w.alloc (.cells #[.slice A1 a.kept.length c1, .slice A2 a.written.length c2] 25)).alloc (.cells #[.slice B1 b.kept.length e1, .slice (some ⟨bb, oo, none⟩) b.written.length e2] 25)) W → Calls Try.prog 21 #[.agg #[.slice B1 b.kept.length e1, .slice (some ⟨bb, oo, none⟩) b.written.length e2], v] W fun r w' => r = .returned (.bool true) ∧ Bel W w') := Lib.hid (fun v W h1 hb => by
    have := sameDisk_any b b _ v W (HBB.out.keep (HB.out.tr hb)) h1
    rw [sameDk_self] at this
    exact this)
  have HBT : Hid (∀ W, Calls Try.prog 43 #[.int .i64 n, .int .i64 0, .int .i64 ((a.kept.length : Int) - 1)] W fun r w' => r = .returned (.bool true) ∧ W = w') := Lib.hid (fun W => by
    have := between_any n 0 ((a.kept.length : Int) - 1) W
    rw [decide_eq_true (show 0 ≤ n ∧ n ≤ (a.kept.length : Int) - 1 by omega)] at this
    exact this)
  clear hQ hR hW0 he HA HBB hsw hsA y0 y1 hwr h1
  rw [hbl, hbk] at *
  clear hbl hbk hst
  have hp1 : IntKind.i64.wrap ((a.written.length : Int) + 1) = a.written.length + 1 := by rw [IntKind.wrap_i64]; omega
  have hk1 : IntKind.i64.wrap ((a.kept.length : Int) - 1) = a.kept.length - 1 := by rw [IntKind.wrap_i64]; omega
  have hss : ((s.size : Int) != 32) = false := by rw [hs32]; rfl
  generalize a.written.length = p at *
  generalize a.kept.length = kl at *
  have hp2 : (0 : Int) ≤ (p : Int) := by omega
  have hp3 : (p : Int) < (p : Int) + 1 := by omega
  have hp4 : (p : Int) ≤ (p : Int) + 1 := by omega
  have hp5 : ((p : Int) + 1 != (p : Int) + 1) = false := by simp
  go_enter Try.func57, Try.ntmps57
  go_upto_region 1 with fail
  generalize (w.alloc (.cells #[.slice A1 kl c1, .slice A2 p c2] 25)).alloc (.cells #[.slice B1 kl e1, .slice (some ⟨bb, oo, none⟩) (p + 1) e2] 25) = W0 at *
  have hbX := Lib.hid (Bel.rfl_ W0)
  obtain ⟨q0, q1, r0, r1, y0, y1⟩ := HFA.out W0 (Bel.rfl_ W0)
  go_wp2_with fail
  go_region_held3 (fun w' => w'.cell? ⟨w.heap.size, 0, none⟩ = some (.slice A1 kl c1) ∧ w'.cell? ⟨w.heap.size, 1, none⟩ = some (.slice A2 p c2) ∧ w'.cell? ⟨w.heap.size + 1, 0, none⟩ = some (.slice B1 kl e1) ∧ w'.cell? ⟨w.heap.size + 1, 1, none⟩ = some (.slice (some ⟨bb, oo, none⟩) (p + 1) e2) ∧ w'.cell? ⟨bb, oo + p * 2, none⟩ = some (.int .i64 n) ∧ w'.cell? ⟨bb, oo + p * 2 + 1, none⟩ = some (.string s))
    (first | exact HFA.out _ (by repeat (first | exact hbX.out | apply Bel.dr | apply Bel.al)))
    (first
      | (go_at_call 17; refine (HCR.out _ (by repeat (first | exact hbX.out | apply Bel.dr))).mono ?_; rintro r w2 ⟨v2, rfl, hd2, hb2⟩; have hbw : Bel W0 w2 := Bel.tr (by repeat (first | exact hbX.out | apply Bel.dr)) hb2; have hbX := Lib.hid hbw; have HD2 := Lib.hid hd2; clear hbw hb2 hd2)
      | (go_at_call 21; refine (HSM.out _ _ (HD2.out.keep (by repeat (first | exact Bel.rfl_ _ | apply Bel.dr))) (by repeat (first | exact hbX.out | apply Bel.dr))).mono ?_; rintro r w3 ⟨rfl, hb3⟩; have hbw : Bel W0 w3 := Bel.tr (by repeat (first | exact hbX.out | apply Bel.dr)) hb3; have hbX := Lib.hid hbw; clear hbw hb3))
  clear q0 q1 r0 r1 y0 y1 HCR HSM HD2
  have HBX3 := hbX
  obtain ⟨q0, q1, r0, r1, y0, y1⟩ := HFA.out w3 hbX.out
  go_wp2_with fail
  go_region_held3 (fun w' => w'.cell? ⟨w.heap.size, 0, none⟩ = some (.slice A1 kl c1) ∧ w'.cell? ⟨w.heap.size, 1, none⟩ = some (.slice A2 p c2) ∧ w'.cell? ⟨w.heap.size + 1, 0, none⟩ = some (.slice B1 kl e1) ∧ w'.cell? ⟨w.heap.size + 1, 1, none⟩ = some (.slice (some ⟨bb, oo, none⟩) (p + 1) e2) ∧ w'.cell? ⟨bb, oo + p * 2, none⟩ = some (.int .i64 n) ∧ w'.cell? ⟨bb, oo + p * 2 + 1, none⟩ = some (.string s))
    (first | exact HFA.out _ (by repeat (first | exact hbX.out | apply Bel.dr | apply Bel.al)))
    (first
      | (go_at_call 43; refine (HBT.out _).mono ?_; rintro r w4 ⟨rfl, rfl⟩))
  clear q0 q1 r0 r1 y0 y1
  have hbX := Lib.hid (HBX3.out.dr)
  obtain ⟨q0, q1, r0, r1, y0, y1⟩ := HFA.out w3.drew hbX.out
  clear HBX3
  generalize w3.drew = W5 at *
  go_wp2_with fail
  go_region_held3 (fun w' => w'.cell? ⟨w.heap.size, 0, none⟩ = some (.slice A1 kl c1) ∧ w'.cell? ⟨w.heap.size, 1, none⟩ = some (.slice A2 p c2) ∧ w'.cell? ⟨w.heap.size + 1, 0, none⟩ = some (.slice B1 kl e1) ∧ w'.cell? ⟨w.heap.size + 1, 1, none⟩ = some (.slice (some ⟨bb, oo, none⟩) (p + 1) e2) ∧ w'.cell? ⟨bb, oo + p * 2, none⟩ = some (.int .i64 n) ∧ w'.cell? ⟨bb, oo + p * 2 + 1, none⟩ = some (.string s))
    (first | exact HFA.out _ (by repeat (first | exact hbX.out | apply Bel.dr | apply Bel.al)))
    (first
      | (go_at_call 16; refine (HWO.out _ (by repeat (first | exact hbX.out | apply Bel.dr))).mono ?_; rintro r w6 ⟨v6, rfl, hd6, hb6⟩; have hbw : Bel W0 w6 := Bel.tr (by repeat (first | exact hbX.out | apply Bel.dr)) hb6; have hbX := Lib.hid hbw; have HD6 := Lib.hid hd6; clear hbw hb6 hd6)
      | (go_at_call 21; refine (HSM2.out _ _ (HD6.out.keep (by repeat (first | exact Bel.rfl_ _ | apply Bel.dr))) (by repeat (first | exact hbX.out | apply Bel.dr))).mono ?_; rintro r w7 ⟨rfl, hb7⟩; have hbw : Bel W0 w7 := Bel.tr (by repeat (first | exact hbX.out | apply Bel.dr)) hb7; have hbX := Lib.hid hbw; clear hbw hb7))
  go_wp2
  go_ret
  exact ⟨rfl, HB.out.tr hbX.out⟩

end Go.Proofs.Ytkojeofegoljpaa
