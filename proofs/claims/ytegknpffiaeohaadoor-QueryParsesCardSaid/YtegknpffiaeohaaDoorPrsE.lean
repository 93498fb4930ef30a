/- The parser's query without brackets, by its kind: walked. Each lemma states its own conditions. -/
import Derived.Test.YtegknpffiaeohaaDoorPrsD
namespace Go.Proofs.YtegknpffiaeohaaDoor
open Go.RowKit

set_option maxRecDepth 20000 in
set_option maxHeartbeats 1000000 in
theorem un7_none (l : List Tok) (lv : Value) (p E g : Nat) (D : Int) (w0 w : World) (hl : Sl tokR w0 lv l) (hn : l.length ≤ 6000) (_hok : ∀ t ∈ l, TokOk t) (h0 : Bel w0 w) (hg : w0.heap.size ≤ g) (h : Ps w g lv p E) (ht : tk l p lparB = false) (hw : wordP l unK p = some 7) (hD : D = 60)
    :
    Calls Tryd.prog 46 #[.pointer (some ⟨g, 0, none⟩), .int .i64 D] w fun r w' => AskRes w g lv l E (unFin 7 none (nP l 7 (p + 1))) r w' := by
  have hp := tk_lt (wordP_some hw).2
  have hglt := h.lt
  have HT := Lib.hid (fun W (hb : Bel w W) => take_no l lv p E g ⟨#[40]⟩ W (hl.keep (h0.tr hb)) hn (h.keep hb) ht)
  have HP0 := Lib.hid h
  have HW := Lib.hid hw
  subst hD
  have HR0 := Lib.hid (Blk.new w 24 #[.int .i64 0, .int .i64 0, .slice none 0 0])
  have HB0 := Lib.hid ((Bel.rfl_ w).al (.cells #[.int .i64 0, .int .i64 0, .slice none 0 0] 24))
  have HSW : Hid (w.heap.size + 1 ≤ (w.alloc (.cells #[.int .i64 0, .int .i64 0, .slice none 0 0] 24)).heap.size) := Lib.hid (by simp)
  clear h ht hw
  go_enter Tryd.func46, Tryd.ntmps46
  go_upto_region 1 with fail
  generalize w.alloc (.cells #[.int .i64 0, .int .i64 0, .slice none 0 0] 24) = W0 at *
  go_wp2_with fail
  refine (HT.out _ HB0.out).mono ?_
  rintro r w1 ⟨rfl, hb1⟩
  have hb3 := (Bel.rfl_ w1).al (.cells #[.int .i64 1, .int .i64 2, .int .i64 3, .int .i64 4, .int .i64 5, .int .i64 6, .int .i64 7, .int .i64 10, .int .i64 11, .int .i64 12, .int .i64 14] 3)
  replace HB0 := Lib.hid ((HB0.out.tr hb1).tr hb3)
  replace HR0 := Lib.hid ((HR0.out.keep hb1).keep hb3)
  have HWD := Lib.hid (word_any l lv (.slice (some ⟨w1.heap.size, 0, none⟩) 11 11) unK p E g (w1.alloc (.cells #[.int .i64 1, .int .i64 2, .int .i64 3, .int .i64 4, .int .i64 5, .int .i64 6, .int .i64 7, .int .i64 10, .int .i64 11, .int .i64 12, .int .i64 14] 3)) (hl.keep (h0.tr HB0.out)) hn (HP0.out.keep HB0.out) (ints_blk (xs := [1, 2, 3, 4, 5, 6, 7, 10, 11, 12, 14]) (Blk.new w1 3 _) rfl (by decide)) (by decide) (by decide))
  replace HSW := Lib.hid (Nat.le_trans HSW.out (Nat.le_trans hb1.size hb3.size))
  clear hb1 hb3 HT HP0
  go_wp2_with fail
  refine HWD.out.mono ?_
  rintro r w2 hres
  rw [HW.out] at hres
  obtain ⟨hr2, hp2, hg2⟩ := hres
  obtain rfl : r = .returned (.int .i64 7) := hr2
  have hba := (Bel.rfl_ w2).al (.cells #[.int .i64 7, .int .i64 0, .slice none 0 0] 24)
  have HP := Lib.hid (hp2.keep hba)
  have HG := Lib.hid (((HB0.out.grown (some g)).trans hg2).trans (hba.grown (some g)))
  replace HR0 := Lib.hid ((HR0.out.grown hg2 (by simp; omega)).keep hba)
  have HAB := Lib.hid (Blk.new w2 24 #[.int .i64 7, .int .i64 0, .slice none 0 0])
  replace HSW := Lib.hid (Nat.le_trans HSW.out hg2.size)
  have hag : w.heap.size < w2.heap.size := by have := HSW.out; omega
  replace HSW := Lib.hid (Nat.le_trans HSW.out hba.size)
  clear hp2 hg2 hba HWD HB0
  go_upto_region 12 with fail
  generalize w2.alloc (.cells #[.int .i64 7, .int .i64 0, .slice none 0 0] 24) = W3 at *
  generalize w2.heap.size = GA at *
  have a0 := HAB.out.cell (i := 0) (v := .int .i64 7) rfl
  have a1 := HAB.out.cell (i := 1) (v := .int .i64 0) rfl
  have af := HAB.out.frozen 1
  have HN : Hid (nP l 7 (p + 1) = .ok 0 (p + 1)) := Lib.hid (by unfold nP; rw [if_neg (by decide), if_neg (by decide), if_neg (by decide)])
  go_upto_region 24 with fail
  clear a0 a1 af
  have b0 := HAB.out.cell (i := 0) (v := .int .i64 7) rfl
  have b1 := HAB.out.cell (i := 1) (v := .int .i64 0) rfl
  have b2 := HAB.out.cell (i := 2) (v := .slice none 0 0) rfl
  have bf := HAB.out.frozen 2
  have r0 := HR0.out.cell (i := 0) (v := .int .i64 0) rfl
  have r1 := HR0.out.cell (i := 1) (v := .int .i64 0) rfl
  have r2 := HR0.out.cell (i := 2) (v := .slice none 0 0) rfl
  have f0 := HR0.out.frozen 0
  have f1 := HR0.out.frozen 1
  have f2 := HR0.out.frozen 2
  go_wp2_with fail
  refine (((args_any 7 _).mono (R' := fun r w' => r = .returned (.int .i64 1) ∧ w' = _) fun _ _ h => ⟨h.1.trans (by rfl), h.2.symm⟩)).mono ?_
  rintro r wX ⟨rfl, rfl⟩
  have HFL := Lib.hid (fail_any l lv (p + 1) E g _ (hl.keep (grownBel h0 hg HG.out)) hn HP.out)
  go_wp2_with fail
  refine HFL.out.mono ?_
  rintro r wY ⟨rfl, hbY⟩
  replace HG := Lib.hid (HG.out.trans (hbY.grown (some g)))
  clear hbY HFL
  go_wp2
  exact ⟨rfl, .mkBad (by rw [HN.out]; rfl) HG.out⟩

set_option maxRecDepth 20000 in
set_option maxHeartbeats 1000000 in
theorem un7_some (l : List Tok) (lv : Value) (p E g : Nat) (D : Int) (f : Nat → PR Ask) (w0 w : World) (hl : Sl tokR w0 lv l) (hn : l.length ≤ 6000) (_hok : ∀ t ∈ l, TokOk t) (h0 : Bel w0 w) (hg : w0.heap.size ≤ g) (h : Ps w g lv p E) (ht : tk l p lparB = false) (hw : wordP l unK p = some 7)
    (hD : 0 ≤ D ∧ D < 60) (hrec : ∀ q W, q ≤ l.length → Bel w0 W → Ps W g lv q E → Calls Tryd.prog 46 #[.pointer (some ⟨g, 0, none⟩), .int .i64 (D + 1)] W fun r w' => AskRes W g lv l E (f q) r w')
    :
    Calls Tryd.prog 46 #[.pointer (some ⟨g, 0, none⟩), .int .i64 D] w fun r w' => AskRes w g lv l E (unFin 7 (some f) (nP l 7 (p + 1))) r w' := by
  have hp := tk_lt (wordP_some hw).2
  have hglt := h.lt
  have HT := Lib.hid (fun W (hb : Bel w W) => take_no l lv p E g ⟨#[40]⟩ W (hl.keep (h0.tr hb)) hn (h.keep hb) ht)
  have HP0 := Lib.hid h
  have HW := Lib.hid hw
  have HREC := Lib.hid hrec
  clear hrec
  have HR0 := Lib.hid (Blk.new w 24 #[.int .i64 0, .int .i64 0, .slice none 0 0])
  have HB0 := Lib.hid ((Bel.rfl_ w).al (.cells #[.int .i64 0, .int .i64 0, .slice none 0 0] 24))
  have HSW : Hid (w.heap.size + 1 ≤ (w.alloc (.cells #[.int .i64 0, .int .i64 0, .slice none 0 0] 24)).heap.size) := Lib.hid (by simp)
  clear h ht hw
  go_enter Tryd.func46, Tryd.ntmps46
  go_upto_region 1 with fail
  generalize w.alloc (.cells #[.int .i64 0, .int .i64 0, .slice none 0 0] 24) = W0 at *
  go_wp2_with fail
  refine (HT.out _ HB0.out).mono ?_
  rintro r w1 ⟨rfl, hb1⟩
  have hb3 := (Bel.rfl_ w1).al (.cells #[.int .i64 1, .int .i64 2, .int .i64 3, .int .i64 4, .int .i64 5, .int .i64 6, .int .i64 7, .int .i64 10, .int .i64 11, .int .i64 12, .int .i64 14] 3)
  replace HB0 := Lib.hid ((HB0.out.tr hb1).tr hb3)
  replace HR0 := Lib.hid ((HR0.out.keep hb1).keep hb3)
  have HWD := Lib.hid (word_any l lv (.slice (some ⟨w1.heap.size, 0, none⟩) 11 11) unK p E g (w1.alloc (.cells #[.int .i64 1, .int .i64 2, .int .i64 3, .int .i64 4, .int .i64 5, .int .i64 6, .int .i64 7, .int .i64 10, .int .i64 11, .int .i64 12, .int .i64 14] 3)) (hl.keep (h0.tr HB0.out)) hn (HP0.out.keep HB0.out) (ints_blk (xs := [1, 2, 3, 4, 5, 6, 7, 10, 11, 12, 14]) (Blk.new w1 3 _) rfl (by decide)) (by decide) (by decide))
  replace HSW := Lib.hid (Nat.le_trans HSW.out (Nat.le_trans hb1.size hb3.size))
  clear hb1 hb3 HT HP0
  go_wp2_with fail
  refine HWD.out.mono ?_
  rintro r w2 hres
  rw [HW.out] at hres
  obtain ⟨hr2, hp2, hg2⟩ := hres
  obtain rfl : r = .returned (.int .i64 7) := hr2
  have hba := (Bel.rfl_ w2).al (.cells #[.int .i64 7, .int .i64 0, .slice none 0 0] 24)
  have HP := Lib.hid (hp2.keep hba)
  have HG := Lib.hid (((HB0.out.grown (some g)).trans hg2).trans (hba.grown (some g)))
  replace HR0 := Lib.hid ((HR0.out.grown hg2 (by simp; omega)).keep hba)
  have HAB := Lib.hid (Blk.new w2 24 #[.int .i64 7, .int .i64 0, .slice none 0 0])
  replace HSW := Lib.hid (Nat.le_trans HSW.out hg2.size)
  have hag : w.heap.size < w2.heap.size := by have := HSW.out; omega
  replace HSW := Lib.hid (Nat.le_trans HSW.out hba.size)
  clear hp2 hg2 hba HWD HB0
  go_upto_region 12 with fail
  generalize w2.alloc (.cells #[.int .i64 7, .int .i64 0, .slice none 0 0] 24) = W3 at *
  generalize w2.heap.size = GA at *
  have a0 := HAB.out.cell (i := 0) (v := .int .i64 7) rfl
  have a1 := HAB.out.cell (i := 1) (v := .int .i64 0) rfl
  have af := HAB.out.frozen 1
  have HN : Hid (nP l 7 (p + 1) = .ok 0 (p + 1)) := Lib.hid (by unfold nP; rw [if_neg (by decide), if_neg (by decide), if_neg (by decide)])
  go_upto_region 24 with fail
  clear a0 a1 af
  have b0 := HAB.out.cell (i := 0) (v := .int .i64 7) rfl
  have b1 := HAB.out.cell (i := 1) (v := .int .i64 0) rfl
  have b2 := HAB.out.cell (i := 2) (v := .slice none 0 0) rfl
  have bf := HAB.out.frozen 2
  have r0 := HR0.out.cell (i := 0) (v := .int .i64 0) rfl
  have r1 := HR0.out.cell (i := 1) (v := .int .i64 0) rfl
  have r2 := HR0.out.cell (i := 2) (v := .slice none 0 0) rfl
  have f0 := HR0.out.frozen 0
  have f1 := HR0.out.frozen 1
  have f2 := HR0.out.frozen 2
  go_wp2_with fail
  refine (((args_any 7 _).mono (R' := fun r w' => r = .returned (.int .i64 1) ∧ w' = _) fun _ _ h => ⟨h.1.trans (by rfl), h.2.symm⟩)).mono ?_
  rintro r wX ⟨rfl, rfl⟩
  have hd : (D == 60) = false := by simp; omega
  have HRC := Lib.hid (HREC.out (p + 1) _ (by first | omega | exact HN1.out) (grownBel h0 hg HG.out) HP.out)
  have HGL := Lib.hid (Nat.succ_le_of_lt HAB.out.lt)
  clear b0 b1 b2 bf r0 r1 r2 f0 f1 f2
  go_wp2_with fail
  refine HRC.out.mono ?_
  rintro r wY hres
  cases hR1 : f (p + 1) with
  | fail x =>
    obtain ⟨hg2, rfl⟩ := hres.bad hR1
    have HG2 := Lib.hid (HG.out.trans hg2)
    have HR1 := Lib.hid hR1
    clear hg2 hR1 hres
    go_wp2
    exact ⟨rfl, .mkBad (by rw [HN.out]; show unP 7 0 f (p + 1) = _; unfold unP; rw [HR1.out]) HG2.out⟩
  | ok a p2 =>
  obtain ⟨hg2, hp2, A1, c1, rfl, hs2⟩ := hres.good hR1
  have HR1 := Lib.hid hR1
  have hba := (Bel.rfl_ wY).al (.cells #[.int .i64 a.kind, .int .i64 a.n, .slice A1 a.args.length c1] 24)
  replace HP := Lib.hid (hp2.keep hba)
  replace HG := Lib.hid ((HG.out.trans hg2).trans (hba.grown (some g)))
  replace HR0 := Lib.hid ((HR0.out.grown hg2 (by simp; omega)).keep hba)
  replace HAB := Lib.hid ((HAB.out.grown hg2 (by simp; omega)).keep hba)
  have HSL := Lib.hid ((low_mono (B' := GA + 1) HGL.out hs2).keep (low_belB hba))
  have HQ := Lib.hid (Blk.new wY 24 #[.int .i64 a.kind, .int .i64 a.n, .slice A1 a.args.length c1])
  have hqa : GA + 1 ≤ wY.heap.size := Nat.le_trans HGL.out hg2.size
  clear hp2 hg2 hres hs2 hR1 hba HRC
  have b0 := HAB.out.cell (i := 0) (v := .int .i64 7) rfl
  have b1 := HAB.out.cell (i := 1) (v := .int .i64 0) rfl
  have b2 := HAB.out.cell (i := 2) (v := .slice none 0 0) rfl
  have bf := HAB.out.frozen 2
  go_upto_region 28 with fail
  generalize wY.alloc (.cells #[.int .i64 a.kind, .int .i64 a.n, .slice A1 a.args.length c1] 24) = W8 at *
  generalize wY.heap.size = GQ at *
  clear b0 b1 b2 bf
  have hsn := Nat.lt_succ_self GA
  have hsr : w.heap.size < GA + 1 := by omega
  replace HP := Lib.hid (HP.out.far_ (R := GA) (by omega) 2 (.slice (some ⟨GQ, 0, none⟩) 1 1))
  replace HG := Lib.hid (grownNew HG.out (R := GA) (by omega) 2 (.slice (some ⟨GQ, 0, none⟩) 1 1))
  replace HR0 := Lib.hid (HR0.out.far_ (R := GA) (by omega) 2 (.slice (some ⟨GQ, 0, none⟩) 1 1))
  replace HQ := Lib.hid (HQ.out.far_ (R := GA) (by omega) 2 (.slice (some ⟨GQ, 0, none⟩) 1 1))
  replace HSL := Lib.hid (HSL.out.keep (low_set W8 (i := 2) (.slice (some ⟨GQ, 0, none⟩) 1 1) hsn))
  replace HAB := Lib.hid (HAB.out.set_ 2 (.slice (some ⟨GQ, 0, none⟩) 1 1))
  generalize W8.setCell ⟨GA, 2, none⟩ (.slice (some ⟨GQ, 0, none⟩) 1 1) = W9 at *
  have b0 := HAB.out.cell (i := 0) (v := .int .i64 7) rfl
  have b1 := HAB.out.cell (i := 1) (v := .int .i64 0) rfl
  have b2 := HAB.out.cell (i := 2) (v := .slice (some ⟨GQ, 0, none⟩) 1 1) rfl
  have r0 := HR0.out.cell (i := 0) (v := .int .i64 0) rfl
  have r1 := HR0.out.cell (i := 1) (v := .int .i64 0) rfl
  have r2 := HR0.out.cell (i := 2) (v := .slice none 0 0) rfl
  have f0 := HR0.out.frozen 0
  have f1 := HR0.out.frozen 1
  have f2 := HR0.out.frozen 2
  go_wp2
  have hz := three_set (a := .int .i64 7) (b := .int .i64 0) (c := .slice (some ⟨GQ, 0, none⟩) 1 1) HR0.out
  have z0 := hz.cell (i := 0) rfl
  have z1 := hz.cell (i := 1) rfl
  have z2 := hz.cell (i := 2) rfl
  refine bodyPost_ret (v := .agg #[.int .i64 7, .int .i64 0, .slice (some ⟨GQ, 0, none⟩) 1 1]) (by simp [results, z0, z1, z2, go_sem]) rfl (.mkGood (k := 7) (n := 0) (args := [a]) (p := p2) (by rw [HN.out]; show unP 7 0 f (p + 1) = _; unfold unP; rw [HR1.out]; rfl) (grownNew (grownNew (grownNew HG.out (Nat.le_refl _) _ _) (Nat.le_refl _) _ _) (Nat.le_refl _) _ _) ?_ (((HP.out.far_ (by omega) 0 _).far_ (by omega) 1 _).far_ (by omega) 2 _))
  exact low_mono (Nat.le_of_lt hsr) (low_one (B := GA + 1) (((HQ.out.far_ (by omega) 0 _).far_ (by omega) 1 _).far_ (by omega) 2 _) hqa (((HSL.out.keep (low_set _ _ hsr)).keep (low_set _ _ hsr)).keep (low_set _ _ hsr)))

set_option maxRecDepth 20000 in
set_option maxHeartbeats 1000000 in
theorem un10_none (l : List Tok) (lv : Value) (p E g : Nat) (D : Int) (w0 w : World) (hl : Sl tokR w0 lv l) (hn : l.length ≤ 6000) (_hok : ∀ t ∈ l, TokOk t) (h0 : Bel w0 w) (hg : w0.heap.size ≤ g) (h : Ps w g lv p E) (ht : tk l p lparB = false) (hw : wordP l unK p = some 10) (hD : D = 60)
    :
    Calls Tryd.prog 46 #[.pointer (some ⟨g, 0, none⟩), .int .i64 D] w fun r w' => AskRes w g lv l E (unFin 10 none (nP l 10 (p + 1))) r w' := by
  have hp := tk_lt (wordP_some hw).2
  have hglt := h.lt
  have HT := Lib.hid (fun W (hb : Bel w W) => take_no l lv p E g ⟨#[40]⟩ W (hl.keep (h0.tr hb)) hn (h.keep hb) ht)
  have HP0 := Lib.hid h
  have HW := Lib.hid hw
  subst hD
  have HR0 := Lib.hid (Blk.new w 24 #[.int .i64 0, .int .i64 0, .slice none 0 0])
  have HB0 := Lib.hid ((Bel.rfl_ w).al (.cells #[.int .i64 0, .int .i64 0, .slice none 0 0] 24))
  have HSW : Hid (w.heap.size + 1 ≤ (w.alloc (.cells #[.int .i64 0, .int .i64 0, .slice none 0 0] 24)).heap.size) := Lib.hid (by simp)
  clear h ht hw
  go_enter Tryd.func46, Tryd.ntmps46
  go_upto_region 1 with fail
  generalize w.alloc (.cells #[.int .i64 0, .int .i64 0, .slice none 0 0] 24) = W0 at *
  go_wp2_with fail
  refine (HT.out _ HB0.out).mono ?_
  rintro r w1 ⟨rfl, hb1⟩
  have hb3 := (Bel.rfl_ w1).al (.cells #[.int .i64 1, .int .i64 2, .int .i64 3, .int .i64 4, .int .i64 5, .int .i64 6, .int .i64 7, .int .i64 10, .int .i64 11, .int .i64 12, .int .i64 14] 3)
  replace HB0 := Lib.hid ((HB0.out.tr hb1).tr hb3)
  replace HR0 := Lib.hid ((HR0.out.keep hb1).keep hb3)
  have HWD := Lib.hid (word_any l lv (.slice (some ⟨w1.heap.size, 0, none⟩) 11 11) unK p E g (w1.alloc (.cells #[.int .i64 1, .int .i64 2, .int .i64 3, .int .i64 4, .int .i64 5, .int .i64 6, .int .i64 7, .int .i64 10, .int .i64 11, .int .i64 12, .int .i64 14] 3)) (hl.keep (h0.tr HB0.out)) hn (HP0.out.keep HB0.out) (ints_blk (xs := [1, 2, 3, 4, 5, 6, 7, 10, 11, 12, 14]) (Blk.new w1 3 _) rfl (by decide)) (by decide) (by decide))
  replace HSW := Lib.hid (Nat.le_trans HSW.out (Nat.le_trans hb1.size hb3.size))
  clear hb1 hb3 HT HP0
  go_wp2_with fail
  refine HWD.out.mono ?_
  rintro r w2 hres
  rw [HW.out] at hres
  obtain ⟨hr2, hp2, hg2⟩ := hres
  obtain rfl : r = .returned (.int .i64 10) := hr2
  have hba := (Bel.rfl_ w2).al (.cells #[.int .i64 10, .int .i64 0, .slice none 0 0] 24)
  have HP := Lib.hid (hp2.keep hba)
  have HG := Lib.hid (((HB0.out.grown (some g)).trans hg2).trans (hba.grown (some g)))
  replace HR0 := Lib.hid ((HR0.out.grown hg2 (by simp; omega)).keep hba)
  have HAB := Lib.hid (Blk.new w2 24 #[.int .i64 10, .int .i64 0, .slice none 0 0])
  replace HSW := Lib.hid (Nat.le_trans HSW.out hg2.size)
  have hag : w.heap.size < w2.heap.size := by have := HSW.out; omega
  replace HSW := Lib.hid (Nat.le_trans HSW.out hba.size)
  clear hp2 hg2 hba HWD HB0
  go_upto_region 12 with fail
  generalize w2.alloc (.cells #[.int .i64 10, .int .i64 0, .slice none 0 0] 24) = W3 at *
  generalize w2.heap.size = GA at *
  have a0 := HAB.out.cell (i := 0) (v := .int .i64 10) rfl
  have a1 := HAB.out.cell (i := 1) (v := .int .i64 0) rfl
  have af := HAB.out.frozen 1
  have HN : Hid (nP l 10 (p + 1) = .ok 0 (p + 1)) := Lib.hid (by unfold nP; rw [if_neg (by decide), if_neg (by decide), if_neg (by decide)])
  go_upto_region 24 with fail
  clear a0 a1 af
  have b0 := HAB.out.cell (i := 0) (v := .int .i64 10) rfl
  have b1 := HAB.out.cell (i := 1) (v := .int .i64 0) rfl
  have b2 := HAB.out.cell (i := 2) (v := .slice none 0 0) rfl
  have bf := HAB.out.frozen 2
  have r0 := HR0.out.cell (i := 0) (v := .int .i64 0) rfl
  have r1 := HR0.out.cell (i := 1) (v := .int .i64 0) rfl
  have r2 := HR0.out.cell (i := 2) (v := .slice none 0 0) rfl
  have f0 := HR0.out.frozen 0
  have f1 := HR0.out.frozen 1
  have f2 := HR0.out.frozen 2
  go_wp2_with fail
  refine (((args_any 10 _).mono (R' := fun r w' => r = .returned (.int .i64 1) ∧ w' = _) fun _ _ h => ⟨h.1.trans (by rfl), h.2.symm⟩)).mono ?_
  rintro r wX ⟨rfl, rfl⟩
  have HFL := Lib.hid (fail_any l lv (p + 1) E g _ (hl.keep (grownBel h0 hg HG.out)) hn HP.out)
  go_wp2_with fail
  refine HFL.out.mono ?_
  rintro r wY ⟨rfl, hbY⟩
  replace HG := Lib.hid (HG.out.trans (hbY.grown (some g)))
  clear hbY HFL
  go_wp2
  exact ⟨rfl, .mkBad (by rw [HN.out]; rfl) HG.out⟩

set_option maxRecDepth 20000 in
set_option maxHeartbeats 1000000 in
theorem un10_some (l : List Tok) (lv : Value) (p E g : Nat) (D : Int) (f : Nat → PR Ask) (w0 w : World) (hl : Sl tokR w0 lv l) (hn : l.length ≤ 6000) (_hok : ∀ t ∈ l, TokOk t) (h0 : Bel w0 w) (hg : w0.heap.size ≤ g) (h : Ps w g lv p E) (ht : tk l p lparB = false) (hw : wordP l unK p = some 10)
    (hD : 0 ≤ D ∧ D < 60) (hrec : ∀ q W, q ≤ l.length → Bel w0 W → Ps W g lv q E → Calls Tryd.prog 46 #[.pointer (some ⟨g, 0, none⟩), .int .i64 (D + 1)] W fun r w' => AskRes W g lv l E (f q) r w')
    :
    Calls Tryd.prog 46 #[.pointer (some ⟨g, 0, none⟩), .int .i64 D] w fun r w' => AskRes w g lv l E (unFin 10 (some f) (nP l 10 (p + 1))) r w' := by
  have hp := tk_lt (wordP_some hw).2
  have hglt := h.lt
  have HT := Lib.hid (fun W (hb : Bel w W) => take_no l lv p E g ⟨#[40]⟩ W (hl.keep (h0.tr hb)) hn (h.keep hb) ht)
  have HP0 := Lib.hid h
  have HW := Lib.hid hw
  have HREC := Lib.hid hrec
  clear hrec
  have HR0 := Lib.hid (Blk.new w 24 #[.int .i64 0, .int .i64 0, .slice none 0 0])
  have HB0 := Lib.hid ((Bel.rfl_ w).al (.cells #[.int .i64 0, .int .i64 0, .slice none 0 0] 24))
  have HSW : Hid (w.heap.size + 1 ≤ (w.alloc (.cells #[.int .i64 0, .int .i64 0, .slice none 0 0] 24)).heap.size) := Lib.hid (by simp)
  clear h ht hw
  go_enter Tryd.func46, Tryd.ntmps46
  go_upto_region 1 with fail
  generalize w.alloc (.cells #[.int .i64 0, .int .i64 0, .slice none 0 0] 24) = W0 at *
  go_wp2_with fail
  refine (HT.out _ HB0.out).mono ?_
  rintro r w1 ⟨rfl, hb1⟩
  have hb3 := (Bel.rfl_ w1).al (.cells #[.int .i64 1, .int .i64 2, .int .i64 3, .int .i64 4, .int .i64 5, .int .i64 6, .int .i64 7, .int .i64 10, .int .i64 11, .int .i64 12, .int .i64 14] 3)
  replace HB0 := Lib.hid ((HB0.out.tr hb1).tr hb3)
  replace HR0 := Lib.hid ((HR0.out.keep hb1).keep hb3)
  have HWD := Lib.hid (word_any l lv (.slice (some ⟨w1.heap.size, 0, none⟩) 11 11) unK p E g (w1.alloc (.cells #[.int .i64 1, .int .i64 2, .int .i64 3, .int .i64 4, .int .i64 5, .int .i64 6, .int .i64 7, .int .i64 10, .int .i64 11, .int .i64 12, .int .i64 14] 3)) (hl.keep (h0.tr HB0.out)) hn (HP0.out.keep HB0.out) (ints_blk (xs := [1, 2, 3, 4, 5, 6, 7, 10, 11, 12, 14]) (Blk.new w1 3 _) rfl (by decide)) (by decide) (by decide))
  replace HSW := Lib.hid (Nat.le_trans HSW.out (Nat.le_trans hb1.size hb3.size))
  clear hb1 hb3 HT HP0
  go_wp2_with fail
  refine HWD.out.mono ?_
  rintro r w2 hres
  rw [HW.out] at hres
  obtain ⟨hr2, hp2, hg2⟩ := hres
  obtain rfl : r = .returned (.int .i64 10) := hr2
  have hba := (Bel.rfl_ w2).al (.cells #[.int .i64 10, .int .i64 0, .slice none 0 0] 24)
  have HP := Lib.hid (hp2.keep hba)
  have HG := Lib.hid (((HB0.out.grown (some g)).trans hg2).trans (hba.grown (some g)))
  replace HR0 := Lib.hid ((HR0.out.grown hg2 (by simp; omega)).keep hba)
  have HAB := Lib.hid (Blk.new w2 24 #[.int .i64 10, .int .i64 0, .slice none 0 0])
  replace HSW := Lib.hid (Nat.le_trans HSW.out hg2.size)
  have hag : w.heap.size < w2.heap.size := by have := HSW.out; omega
  replace HSW := Lib.hid (Nat.le_trans HSW.out hba.size)
  clear hp2 hg2 hba HWD HB0
  go_upto_region 12 with fail
  generalize w2.alloc (.cells #[.int .i64 10, .int .i64 0, .slice none 0 0] 24) = W3 at *
  generalize w2.heap.size = GA at *
  have a0 := HAB.out.cell (i := 0) (v := .int .i64 10) rfl
  have a1 := HAB.out.cell (i := 1) (v := .int .i64 0) rfl
  have af := HAB.out.frozen 1
  have HN : Hid (nP l 10 (p + 1) = .ok 0 (p + 1)) := Lib.hid (by unfold nP; rw [if_neg (by decide), if_neg (by decide), if_neg (by decide)])
  go_upto_region 24 with fail
  clear a0 a1 af
  have b0 := HAB.out.cell (i := 0) (v := .int .i64 10) rfl
  have b1 := HAB.out.cell (i := 1) (v := .int .i64 0) rfl
  have b2 := HAB.out.cell (i := 2) (v := .slice none 0 0) rfl
  have bf := HAB.out.frozen 2
  have r0 := HR0.out.cell (i := 0) (v := .int .i64 0) rfl
  have r1 := HR0.out.cell (i := 1) (v := .int .i64 0) rfl
  have r2 := HR0.out.cell (i := 2) (v := .slice none 0 0) rfl
  have f0 := HR0.out.frozen 0
  have f1 := HR0.out.frozen 1
  have f2 := HR0.out.frozen 2
  go_wp2_with fail
  refine (((args_any 10 _).mono (R' := fun r w' => r = .returned (.int .i64 1) ∧ w' = _) fun _ _ h => ⟨h.1.trans (by rfl), h.2.symm⟩)).mono ?_
  rintro r wX ⟨rfl, rfl⟩
  have hd : (D == 60) = false := by simp; omega
  have HRC := Lib.hid (HREC.out (p + 1) _ (by first | omega | exact HN1.out) (grownBel h0 hg HG.out) HP.out)
  have HGL := Lib.hid (Nat.succ_le_of_lt HAB.out.lt)
  clear b0 b1 b2 bf r0 r1 r2 f0 f1 f2
  go_wp2_with fail
  refine HRC.out.mono ?_
  rintro r wY hres
  cases hR1 : f (p + 1) with
  | fail x =>
    obtain ⟨hg2, rfl⟩ := hres.bad hR1
    have HG2 := Lib.hid (HG.out.trans hg2)
    have HR1 := Lib.hid hR1
    clear hg2 hR1 hres
    go_wp2
    exact ⟨rfl, .mkBad (by rw [HN.out]; show unP 10 0 f (p + 1) = _; unfold unP; rw [HR1.out]) HG2.out⟩
  | ok a p2 =>
  obtain ⟨hg2, hp2, A1, c1, rfl, hs2⟩ := hres.good hR1
  have HR1 := Lib.hid hR1
  have hba := (Bel.rfl_ wY).al (.cells #[.int .i64 a.kind, .int .i64 a.n, .slice A1 a.args.length c1] 24)
  replace HP := Lib.hid (hp2.keep hba)
  replace HG := Lib.hid ((HG.out.trans hg2).trans (hba.grown (some g)))
  replace HR0 := Lib.hid ((HR0.out.grown hg2 (by simp; omega)).keep hba)
  replace HAB := Lib.hid ((HAB.out.grown hg2 (by simp; omega)).keep hba)
  have HSL := Lib.hid ((low_mono (B' := GA + 1) HGL.out hs2).keep (low_belB hba))
  have HQ := Lib.hid (Blk.new wY 24 #[.int .i64 a.kind, .int .i64 a.n, .slice A1 a.args.length c1])
  have hqa : GA + 1 ≤ wY.heap.size := Nat.le_trans HGL.out hg2.size
  clear hp2 hg2 hres hs2 hR1 hba HRC
  have b0 := HAB.out.cell (i := 0) (v := .int .i64 10) rfl
  have b1 := HAB.out.cell (i := 1) (v := .int .i64 0) rfl
  have b2 := HAB.out.cell (i := 2) (v := .slice none 0 0) rfl
  have bf := HAB.out.frozen 2
  go_upto_region 28 with fail
  generalize wY.alloc (.cells #[.int .i64 a.kind, .int .i64 a.n, .slice A1 a.args.length c1] 24) = W8 at *
  generalize wY.heap.size = GQ at *
  clear b0 b1 b2 bf
  have hsn := Nat.lt_succ_self GA
  have hsr : w.heap.size < GA + 1 := by omega
  replace HP := Lib.hid (HP.out.far_ (R := GA) (by omega) 2 (.slice (some ⟨GQ, 0, none⟩) 1 1))
  replace HG := Lib.hid (grownNew HG.out (R := GA) (by omega) 2 (.slice (some ⟨GQ, 0, none⟩) 1 1))
  replace HR0 := Lib.hid (HR0.out.far_ (R := GA) (by omega) 2 (.slice (some ⟨GQ, 0, none⟩) 1 1))
  replace HQ := Lib.hid (HQ.out.far_ (R := GA) (by omega) 2 (.slice (some ⟨GQ, 0, none⟩) 1 1))
  replace HSL := Lib.hid (HSL.out.keep (low_set W8 (i := 2) (.slice (some ⟨GQ, 0, none⟩) 1 1) hsn))
  replace HAB := Lib.hid (HAB.out.set_ 2 (.slice (some ⟨GQ, 0, none⟩) 1 1))
  generalize W8.setCell ⟨GA, 2, none⟩ (.slice (some ⟨GQ, 0, none⟩) 1 1) = W9 at *
  have b0 := HAB.out.cell (i := 0) (v := .int .i64 10) rfl
  have b1 := HAB.out.cell (i := 1) (v := .int .i64 0) rfl
  have b2 := HAB.out.cell (i := 2) (v := .slice (some ⟨GQ, 0, none⟩) 1 1) rfl
  have r0 := HR0.out.cell (i := 0) (v := .int .i64 0) rfl
  have r1 := HR0.out.cell (i := 1) (v := .int .i64 0) rfl
  have r2 := HR0.out.cell (i := 2) (v := .slice none 0 0) rfl
  have f0 := HR0.out.frozen 0
  have f1 := HR0.out.frozen 1
  have f2 := HR0.out.frozen 2
  go_wp2
  have hz := three_set (a := .int .i64 10) (b := .int .i64 0) (c := .slice (some ⟨GQ, 0, none⟩) 1 1) HR0.out
  have z0 := hz.cell (i := 0) rfl
  have z1 := hz.cell (i := 1) rfl
  have z2 := hz.cell (i := 2) rfl
  refine bodyPost_ret (v := .agg #[.int .i64 10, .int .i64 0, .slice (some ⟨GQ, 0, none⟩) 1 1]) (by simp [results, z0, z1, z2, go_sem]) rfl (.mkGood (k := 10) (n := 0) (args := [a]) (p := p2) (by rw [HN.out]; show unP 10 0 f (p + 1) = _; unfold unP; rw [HR1.out]; rfl) (grownNew (grownNew (grownNew HG.out (Nat.le_refl _) _ _) (Nat.le_refl _) _ _) (Nat.le_refl _) _ _) ?_ (((HP.out.far_ (by omega) 0 _).far_ (by omega) 1 _).far_ (by omega) 2 _))
  exact low_mono (Nat.le_of_lt hsr) (low_one (B := GA + 1) (((HQ.out.far_ (by omega) 0 _).far_ (by omega) 1 _).far_ (by omega) 2 _) hqa (((HSL.out.keep (low_set _ _ hsr)).keep (low_set _ _ hsr)).keep (low_set _ _ hsr)))

set_option maxRecDepth 20000 in
set_option maxHeartbeats 1000000 in
theorem un11_none (l : List Tok) (lv : Value) (p E g : Nat) (D : Int) (w0 w : World) (hl : Sl tokR w0 lv l) (hn : l.length ≤ 6000) (_hok : ∀ t ∈ l, TokOk t) (h0 : Bel w0 w) (hg : w0.heap.size ≤ g) (h : Ps w g lv p E) (ht : tk l p lparB = false) (hw : wordP l unK p = some 11) (hD : D = 60)
    :
    Calls Tryd.prog 46 #[.pointer (some ⟨g, 0, none⟩), .int .i64 D] w fun r w' => AskRes w g lv l E (unFin 11 none (nP l 11 (p + 1))) r w' := by
  have hp := tk_lt (wordP_some hw).2
  have hglt := h.lt
  have HT := Lib.hid (fun W (hb : Bel w W) => take_no l lv p E g ⟨#[40]⟩ W (hl.keep (h0.tr hb)) hn (h.keep hb) ht)
  have HP0 := Lib.hid h
  have HW := Lib.hid hw
  subst hD
  have HR0 := Lib.hid (Blk.new w 24 #[.int .i64 0, .int .i64 0, .slice none 0 0])
  have HB0 := Lib.hid ((Bel.rfl_ w).al (.cells #[.int .i64 0, .int .i64 0, .slice none 0 0] 24))
  have HSW : Hid (w.heap.size + 1 ≤ (w.alloc (.cells #[.int .i64 0, .int .i64 0, .slice none 0 0] 24)).heap.size) := Lib.hid (by simp)
  clear h ht hw
  go_enter Tryd.func46, Tryd.ntmps46
  go_upto_region 1 with fail
  generalize w.alloc (.cells #[.int .i64 0, .int .i64 0, .slice none 0 0] 24) = W0 at *
  go_wp2_with fail
  refine (HT.out _ HB0.out).mono ?_
  rintro r w1 ⟨rfl, hb1⟩
  have hb3 := (Bel.rfl_ w1).al (.cells #[.int .i64 1, .int .i64 2, .int .i64 3, .int .i64 4, .int .i64 5, .int .i64 6, .int .i64 7, .int .i64 10, .int .i64 11, .int .i64 12, .int .i64 14] 3)
  replace HB0 := Lib.hid ((HB0.out.tr hb1).tr hb3)
  replace HR0 := Lib.hid ((HR0.out.keep hb1).keep hb3)
  have HWD := Lib.hid (word_any l lv (.slice (some ⟨w1.heap.size, 0, none⟩) 11 11) unK p E g (w1.alloc (.cells #[.int .i64 1, .int .i64 2, .int .i64 3, .int .i64 4, .int .i64 5, .int .i64 6, .int .i64 7, .int .i64 10, .int .i64 11, .int .i64 12, .int .i64 14] 3)) (hl.keep (h0.tr HB0.out)) hn (HP0.out.keep HB0.out) (ints_blk (xs := [1, 2, 3, 4, 5, 6, 7, 10, 11, 12, 14]) (Blk.new w1 3 _) rfl (by decide)) (by decide) (by decide))
  replace HSW := Lib.hid (Nat.le_trans HSW.out (Nat.le_trans hb1.size hb3.size))
  clear hb1 hb3 HT HP0
  go_wp2_with fail
  refine HWD.out.mono ?_
  rintro r w2 hres
  rw [HW.out] at hres
  obtain ⟨hr2, hp2, hg2⟩ := hres
  obtain rfl : r = .returned (.int .i64 11) := hr2
  have hba := (Bel.rfl_ w2).al (.cells #[.int .i64 11, .int .i64 0, .slice none 0 0] 24)
  have HP := Lib.hid (hp2.keep hba)
  have HG := Lib.hid (((HB0.out.grown (some g)).trans hg2).trans (hba.grown (some g)))
  replace HR0 := Lib.hid ((HR0.out.grown hg2 (by simp; omega)).keep hba)
  have HAB := Lib.hid (Blk.new w2 24 #[.int .i64 11, .int .i64 0, .slice none 0 0])
  replace HSW := Lib.hid (Nat.le_trans HSW.out hg2.size)
  have hag : w.heap.size < w2.heap.size := by have := HSW.out; omega
  replace HSW := Lib.hid (Nat.le_trans HSW.out hba.size)
  clear hp2 hg2 hba HWD HB0
  go_upto_region 12 with fail
  generalize w2.alloc (.cells #[.int .i64 11, .int .i64 0, .slice none 0 0] 24) = W3 at *
  generalize w2.heap.size = GA at *
  have a0 := HAB.out.cell (i := 0) (v := .int .i64 11) rfl
  have a1 := HAB.out.cell (i := 1) (v := .int .i64 0) rfl
  have af := HAB.out.frozen 1
  have HN : Hid (nP l 11 (p + 1) = .ok 0 (p + 1)) := Lib.hid (by unfold nP; rw [if_neg (by decide), if_neg (by decide), if_neg (by decide)])
  go_upto_region 24 with fail
  clear a0 a1 af
  have b0 := HAB.out.cell (i := 0) (v := .int .i64 11) rfl
  have b1 := HAB.out.cell (i := 1) (v := .int .i64 0) rfl
  have b2 := HAB.out.cell (i := 2) (v := .slice none 0 0) rfl
  have bf := HAB.out.frozen 2
  have r0 := HR0.out.cell (i := 0) (v := .int .i64 0) rfl
  have r1 := HR0.out.cell (i := 1) (v := .int .i64 0) rfl
  have r2 := HR0.out.cell (i := 2) (v := .slice none 0 0) rfl
  have f0 := HR0.out.frozen 0
  have f1 := HR0.out.frozen 1
  have f2 := HR0.out.frozen 2
  go_wp2_with fail
  refine (((args_any 11 _).mono (R' := fun r w' => r = .returned (.int .i64 1) ∧ w' = _) fun _ _ h => ⟨h.1.trans (by rfl), h.2.symm⟩)).mono ?_
  rintro r wX ⟨rfl, rfl⟩
  have HFL := Lib.hid (fail_any l lv (p + 1) E g _ (hl.keep (grownBel h0 hg HG.out)) hn HP.out)
  go_wp2_with fail
  refine HFL.out.mono ?_
  rintro r wY ⟨rfl, hbY⟩
  replace HG := Lib.hid (HG.out.trans (hbY.grown (some g)))
  clear hbY HFL
  go_wp2
  exact ⟨rfl, .mkBad (by rw [HN.out]; rfl) HG.out⟩

set_option maxRecDepth 20000 in
set_option maxHeartbeats 1000000 in
theorem un11_some (l : List Tok) (lv : Value) (p E g : Nat) (D : Int) (f : Nat → PR Ask) (w0 w : World) (hl : Sl tokR w0 lv l) (hn : l.length ≤ 6000) (_hok : ∀ t ∈ l, TokOk t) (h0 : Bel w0 w) (hg : w0.heap.size ≤ g) (h : Ps w g lv p E) (ht : tk l p lparB = false) (hw : wordP l unK p = some 11)
    (hD : 0 ≤ D ∧ D < 60) (hrec : ∀ q W, q ≤ l.length → Bel w0 W → Ps W g lv q E → Calls Tryd.prog 46 #[.pointer (some ⟨g, 0, none⟩), .int .i64 (D + 1)] W fun r w' => AskRes W g lv l E (f q) r w')
    :
    Calls Tryd.prog 46 #[.pointer (some ⟨g, 0, none⟩), .int .i64 D] w fun r w' => AskRes w g lv l E (unFin 11 (some f) (nP l 11 (p + 1))) r w' := by
  have hp := tk_lt (wordP_some hw).2
  have hglt := h.lt
  have HT := Lib.hid (fun W (hb : Bel w W) => take_no l lv p E g ⟨#[40]⟩ W (hl.keep (h0.tr hb)) hn (h.keep hb) ht)
  have HP0 := Lib.hid h
  have HW := Lib.hid hw
  have HREC := Lib.hid hrec
  clear hrec
  have HR0 := Lib.hid (Blk.new w 24 #[.int .i64 0, .int .i64 0, .slice none 0 0])
  have HB0 := Lib.hid ((Bel.rfl_ w).al (.cells #[.int .i64 0, .int .i64 0, .slice none 0 0] 24))
  have HSW : Hid (w.heap.size + 1 ≤ (w.alloc (.cells #[.int .i64 0, .int .i64 0, .slice none 0 0] 24)).heap.size) := Lib.hid (by simp)
  clear h ht hw
  go_enter Tryd.func46, Tryd.ntmps46
  go_upto_region 1 with fail
  generalize w.alloc (.cells #[.int .i64 0, .int .i64 0, .slice none 0 0] 24) = W0 at *
  go_wp2_with fail
  refine (HT.out _ HB0.out).mono ?_
  rintro r w1 ⟨rfl, hb1⟩
  have hb3 := (Bel.rfl_ w1).al (.cells #[.int .i64 1, .int .i64 2, .int .i64 3, .int .i64 4, .int .i64 5, .int .i64 6, .int .i64 7, .int .i64 10, .int .i64 11, .int .i64 12, .int .i64 14] 3)
  replace HB0 := Lib.hid ((HB0.out.tr hb1).tr hb3)
  replace HR0 := Lib.hid ((HR0.out.keep hb1).keep hb3)
  have HWD := Lib.hid (word_any l lv (.slice (some ⟨w1.heap.size, 0, none⟩) 11 11) unK p E g (w1.alloc (.cells #[.int .i64 1, .int .i64 2, .int .i64 3, .int .i64 4, .int .i64 5, .int .i64 6, .int .i64 7, .int .i64 10, .int .i64 11, .int .i64 12, .int .i64 14] 3)) (hl.keep (h0.tr HB0.out)) hn (HP0.out.keep HB0.out) (ints_blk (xs := [1, 2, 3, 4, 5, 6, 7, 10, 11, 12, 14]) (Blk.new w1 3 _) rfl (by decide)) (by decide) (by decide))
  replace HSW := Lib.hid (Nat.le_trans HSW.out (Nat.le_trans hb1.size hb3.size))
  clear hb1 hb3 HT HP0
  go_wp2_with fail
  refine HWD.out.mono ?_
  rintro r w2 hres
  rw [HW.out] at hres
  obtain ⟨hr2, hp2, hg2⟩ := hres
  obtain rfl : r = .returned (.int .i64 11) := hr2
  have hba := (Bel.rfl_ w2).al (.cells #[.int .i64 11, .int .i64 0, .slice none 0 0] 24)
  have HP := Lib.hid (hp2.keep hba)
  have HG := Lib.hid (((HB0.out.grown (some g)).trans hg2).trans (hba.grown (some g)))
  replace HR0 := Lib.hid ((HR0.out.grown hg2 (by simp; omega)).keep hba)
  have HAB := Lib.hid (Blk.new w2 24 #[.int .i64 11, .int .i64 0, .slice none 0 0])
  replace HSW := Lib.hid (Nat.le_trans HSW.out hg2.size)
  have hag : w.heap.size < w2.heap.size := by have := HSW.out; omega
  replace HSW := Lib.hid (Nat.le_trans HSW.out hba.size)
  clear hp2 hg2 hba HWD HB0
  go_upto_region 12 with fail
  generalize w2.alloc (.cells #[.int .i64 11, .int .i64 0, .slice none 0 0] 24) = W3 at *
  generalize w2.heap.size = GA at *
  have a0 := HAB.out.cell (i := 0) (v := .int .i64 11) rfl
  have a1 := HAB.out.cell (i := 1) (v := .int .i64 0) rfl
  have af := HAB.out.frozen 1
  have HN : Hid (nP l 11 (p + 1) = .ok 0 (p + 1)) := Lib.hid (by unfold nP; rw [if_neg (by decide), if_neg (by decide), if_neg (by decide)])
  go_upto_region 24 with fail
  clear a0 a1 af
  have b0 := HAB.out.cell (i := 0) (v := .int .i64 11) rfl
  have b1 := HAB.out.cell (i := 1) (v := .int .i64 0) rfl
  have b2 := HAB.out.cell (i := 2) (v := .slice none 0 0) rfl
  have bf := HAB.out.frozen 2
  have r0 := HR0.out.cell (i := 0) (v := .int .i64 0) rfl
  have r1 := HR0.out.cell (i := 1) (v := .int .i64 0) rfl
  have r2 := HR0.out.cell (i := 2) (v := .slice none 0 0) rfl
  have f0 := HR0.out.frozen 0
  have f1 := HR0.out.frozen 1
  have f2 := HR0.out.frozen 2
  go_wp2_with fail
  refine (((args_any 11 _).mono (R' := fun r w' => r = .returned (.int .i64 1) ∧ w' = _) fun _ _ h => ⟨h.1.trans (by rfl), h.2.symm⟩)).mono ?_
  rintro r wX ⟨rfl, rfl⟩
  have hd : (D == 60) = false := by simp; omega
  have HRC := Lib.hid (HREC.out (p + 1) _ (by first | omega | exact HN1.out) (grownBel h0 hg HG.out) HP.out)
  have HGL := Lib.hid (Nat.succ_le_of_lt HAB.out.lt)
  clear b0 b1 b2 bf r0 r1 r2 f0 f1 f2
  go_wp2_with fail
  refine HRC.out.mono ?_
  rintro r wY hres
  cases hR1 : f (p + 1) with
  | fail x =>
    obtain ⟨hg2, rfl⟩ := hres.bad hR1
    have HG2 := Lib.hid (HG.out.trans hg2)
    have HR1 := Lib.hid hR1
    clear hg2 hR1 hres
    go_wp2
    exact ⟨rfl, .mkBad (by rw [HN.out]; show unP 11 0 f (p + 1) = _; unfold unP; rw [HR1.out]) HG2.out⟩
  | ok a p2 =>
  obtain ⟨hg2, hp2, A1, c1, rfl, hs2⟩ := hres.good hR1
  have HR1 := Lib.hid hR1
  have hba := (Bel.rfl_ wY).al (.cells #[.int .i64 a.kind, .int .i64 a.n, .slice A1 a.args.length c1] 24)
  replace HP := Lib.hid (hp2.keep hba)
  replace HG := Lib.hid ((HG.out.trans hg2).trans (hba.grown (some g)))
  replace HR0 := Lib.hid ((HR0.out.grown hg2 (by simp; omega)).keep hba)
  replace HAB := Lib.hid ((HAB.out.grown hg2 (by simp; omega)).keep hba)
  have HSL := Lib.hid ((low_mono (B' := GA + 1) HGL.out hs2).keep (low_belB hba))
  have HQ := Lib.hid (Blk.new wY 24 #[.int .i64 a.kind, .int .i64 a.n, .slice A1 a.args.length c1])
  have hqa : GA + 1 ≤ wY.heap.size := Nat.le_trans HGL.out hg2.size
  clear hp2 hg2 hres hs2 hR1 hba HRC
  have b0 := HAB.out.cell (i := 0) (v := .int .i64 11) rfl
  have b1 := HAB.out.cell (i := 1) (v := .int .i64 0) rfl
  have b2 := HAB.out.cell (i := 2) (v := .slice none 0 0) rfl
  have bf := HAB.out.frozen 2
  go_upto_region 28 with fail
  generalize wY.alloc (.cells #[.int .i64 a.kind, .int .i64 a.n, .slice A1 a.args.length c1] 24) = W8 at *
  generalize wY.heap.size = GQ at *
  clear b0 b1 b2 bf
  have hsn := Nat.lt_succ_self GA
  have hsr : w.heap.size < GA + 1 := by omega
  replace HP := Lib.hid (HP.out.far_ (R := GA) (by omega) 2 (.slice (some ⟨GQ, 0, none⟩) 1 1))
  replace HG := Lib.hid (grownNew HG.out (R := GA) (by omega) 2 (.slice (some ⟨GQ, 0, none⟩) 1 1))
  replace HR0 := Lib.hid (HR0.out.far_ (R := GA) (by omega) 2 (.slice (some ⟨GQ, 0, none⟩) 1 1))
  replace HQ := Lib.hid (HQ.out.far_ (R := GA) (by omega) 2 (.slice (some ⟨GQ, 0, none⟩) 1 1))
  replace HSL := Lib.hid (HSL.out.keep (low_set W8 (i := 2) (.slice (some ⟨GQ, 0, none⟩) 1 1) hsn))
  replace HAB := Lib.hid (HAB.out.set_ 2 (.slice (some ⟨GQ, 0, none⟩) 1 1))
  generalize W8.setCell ⟨GA, 2, none⟩ (.slice (some ⟨GQ, 0, none⟩) 1 1) = W9 at *
  have b0 := HAB.out.cell (i := 0) (v := .int .i64 11) rfl
  have b1 := HAB.out.cell (i := 1) (v := .int .i64 0) rfl
  have b2 := HAB.out.cell (i := 2) (v := .slice (some ⟨GQ, 0, none⟩) 1 1) rfl
  have r0 := HR0.out.cell (i := 0) (v := .int .i64 0) rfl
  have r1 := HR0.out.cell (i := 1) (v := .int .i64 0) rfl
  have r2 := HR0.out.cell (i := 2) (v := .slice none 0 0) rfl
  have f0 := HR0.out.frozen 0
  have f1 := HR0.out.frozen 1
  have f2 := HR0.out.frozen 2
  go_wp2
  have hz := three_set (a := .int .i64 11) (b := .int .i64 0) (c := .slice (some ⟨GQ, 0, none⟩) 1 1) HR0.out
  have z0 := hz.cell (i := 0) rfl
  have z1 := hz.cell (i := 1) rfl
  have z2 := hz.cell (i := 2) rfl
  refine bodyPost_ret (v := .agg #[.int .i64 11, .int .i64 0, .slice (some ⟨GQ, 0, none⟩) 1 1]) (by simp [results, z0, z1, z2, go_sem]) rfl (.mkGood (k := 11) (n := 0) (args := [a]) (p := p2) (by rw [HN.out]; show unP 11 0 f (p + 1) = _; unfold unP; rw [HR1.out]; rfl) (grownNew (grownNew (grownNew HG.out (Nat.le_refl _) _ _) (Nat.le_refl _) _ _) (Nat.le_refl _) _ _) ?_ (((HP.out.far_ (by omega) 0 _).far_ (by omega) 1 _).far_ (by omega) 2 _))
  exact low_mono (Nat.le_of_lt hsr) (low_one (B := GA + 1) (((HQ.out.far_ (by omega) 0 _).far_ (by omega) 1 _).far_ (by omega) 2 _) hqa (((HSL.out.keep (low_set _ _ hsr)).keep (low_set _ _ hsr)).keep (low_set _ _ hsr)))

set_option maxRecDepth 20000 in
set_option maxHeartbeats 1000000 in
theorem un12_none (l : List Tok) (lv : Value) (p E g : Nat) (D : Int) (w0 w : World) (hl : Sl tokR w0 lv l) (hn : l.length ≤ 6000) (_hok : ∀ t ∈ l, TokOk t) (h0 : Bel w0 w) (hg : w0.heap.size ≤ g) (h : Ps w g lv p E) (ht : tk l p lparB = false) (hw : wordP l unK p = some 12) (hD : D = 60)
    :
    Calls Tryd.prog 46 #[.pointer (some ⟨g, 0, none⟩), .int .i64 D] w fun r w' => AskRes w g lv l E (unFin 12 none (nP l 12 (p + 1))) r w' := by
  have hp := tk_lt (wordP_some hw).2
  have hglt := h.lt
  have HT := Lib.hid (fun W (hb : Bel w W) => take_no l lv p E g ⟨#[40]⟩ W (hl.keep (h0.tr hb)) hn (h.keep hb) ht)
  have HP0 := Lib.hid h
  have HW := Lib.hid hw
  subst hD
  have HR0 := Lib.hid (Blk.new w 24 #[.int .i64 0, .int .i64 0, .slice none 0 0])
  have HB0 := Lib.hid ((Bel.rfl_ w).al (.cells #[.int .i64 0, .int .i64 0, .slice none 0 0] 24))
  have HSW : Hid (w.heap.size + 1 ≤ (w.alloc (.cells #[.int .i64 0, .int .i64 0, .slice none 0 0] 24)).heap.size) := Lib.hid (by simp)
  clear h ht hw
  go_enter Tryd.func46, Tryd.ntmps46
  go_upto_region 1 with fail
  generalize w.alloc (.cells #[.int .i64 0, .int .i64 0, .slice none 0 0] 24) = W0 at *
  go_wp2_with fail
  refine (HT.out _ HB0.out).mono ?_
  rintro r w1 ⟨rfl, hb1⟩
  have hb3 := (Bel.rfl_ w1).al (.cells #[.int .i64 1, .int .i64 2, .int .i64 3, .int .i64 4, .int .i64 5, .int .i64 6, .int .i64 7, .int .i64 10, .int .i64 11, .int .i64 12, .int .i64 14] 3)
  replace HB0 := Lib.hid ((HB0.out.tr hb1).tr hb3)
  replace HR0 := Lib.hid ((HR0.out.keep hb1).keep hb3)
  have HWD := Lib.hid (word_any l lv (.slice (some ⟨w1.heap.size, 0, none⟩) 11 11) unK p E g (w1.alloc (.cells #[.int .i64 1, .int .i64 2, .int .i64 3, .int .i64 4, .int .i64 5, .int .i64 6, .int .i64 7, .int .i64 10, .int .i64 11, .int .i64 12, .int .i64 14] 3)) (hl.keep (h0.tr HB0.out)) hn (HP0.out.keep HB0.out) (ints_blk (xs := [1, 2, 3, 4, 5, 6, 7, 10, 11, 12, 14]) (Blk.new w1 3 _) rfl (by decide)) (by decide) (by decide))
  replace HSW := Lib.hid (Nat.le_trans HSW.out (Nat.le_trans hb1.size hb3.size))
  clear hb1 hb3 HT HP0
  go_wp2_with fail
  refine HWD.out.mono ?_
  rintro r w2 hres
  rw [HW.out] at hres
  obtain ⟨hr2, hp2, hg2⟩ := hres
  obtain rfl : r = .returned (.int .i64 12) := hr2
  have hba := (Bel.rfl_ w2).al (.cells #[.int .i64 12, .int .i64 0, .slice none 0 0] 24)
  have HP := Lib.hid (hp2.keep hba)
  have HG := Lib.hid (((HB0.out.grown (some g)).trans hg2).trans (hba.grown (some g)))
  replace HR0 := Lib.hid ((HR0.out.grown hg2 (by simp; omega)).keep hba)
  have HAB := Lib.hid (Blk.new w2 24 #[.int .i64 12, .int .i64 0, .slice none 0 0])
  replace HSW := Lib.hid (Nat.le_trans HSW.out hg2.size)
  have hag : w.heap.size < w2.heap.size := by have := HSW.out; omega
  replace HSW := Lib.hid (Nat.le_trans HSW.out hba.size)
  clear hp2 hg2 hba HWD HB0
  go_upto_region 12 with fail
  generalize w2.alloc (.cells #[.int .i64 12, .int .i64 0, .slice none 0 0] 24) = W3 at *
  generalize w2.heap.size = GA at *
  have a0 := HAB.out.cell (i := 0) (v := .int .i64 12) rfl
  have a1 := HAB.out.cell (i := 1) (v := .int .i64 0) rfl
  have af := HAB.out.frozen 1
  have HN : Hid (nP l 12 (p + 1) = .ok 0 (p + 1)) := Lib.hid (by unfold nP; rw [if_neg (by decide), if_neg (by decide), if_neg (by decide)])
  go_upto_region 24 with fail
  clear a0 a1 af
  have b0 := HAB.out.cell (i := 0) (v := .int .i64 12) rfl
  have b1 := HAB.out.cell (i := 1) (v := .int .i64 0) rfl
  have b2 := HAB.out.cell (i := 2) (v := .slice none 0 0) rfl
  have bf := HAB.out.frozen 2
  have r0 := HR0.out.cell (i := 0) (v := .int .i64 0) rfl
  have r1 := HR0.out.cell (i := 1) (v := .int .i64 0) rfl
  have r2 := HR0.out.cell (i := 2) (v := .slice none 0 0) rfl
  have f0 := HR0.out.frozen 0
  have f1 := HR0.out.frozen 1
  have f2 := HR0.out.frozen 2
  go_wp2_with fail
  refine (((args_any 12 _).mono (R' := fun r w' => r = .returned (.int .i64 1) ∧ w' = _) fun _ _ h => ⟨h.1.trans (by rfl), h.2.symm⟩)).mono ?_
  rintro r wX ⟨rfl, rfl⟩
  have HFL := Lib.hid (fail_any l lv (p + 1) E g _ (hl.keep (grownBel h0 hg HG.out)) hn HP.out)
  go_wp2_with fail
  refine HFL.out.mono ?_
  rintro r wY ⟨rfl, hbY⟩
  replace HG := Lib.hid (HG.out.trans (hbY.grown (some g)))
  clear hbY HFL
  go_wp2
  exact ⟨rfl, .mkBad (by rw [HN.out]; rfl) HG.out⟩

set_option maxRecDepth 20000 in
set_option maxHeartbeats 1000000 in
theorem un12_some (l : List Tok) (lv : Value) (p E g : Nat) (D : Int) (f : Nat → PR Ask) (w0 w : World) (hl : Sl tokR w0 lv l) (hn : l.length ≤ 6000) (_hok : ∀ t ∈ l, TokOk t) (h0 : Bel w0 w) (hg : w0.heap.size ≤ g) (h : Ps w g lv p E) (ht : tk l p lparB = false) (hw : wordP l unK p = some 12)
    (hD : 0 ≤ D ∧ D < 60) (hrec : ∀ q W, q ≤ l.length → Bel w0 W → Ps W g lv q E → Calls Tryd.prog 46 #[.pointer (some ⟨g, 0, none⟩), .int .i64 (D + 1)] W fun r w' => AskRes W g lv l E (f q) r w')
    :
    Calls Tryd.prog 46 #[.pointer (some ⟨g, 0, none⟩), .int .i64 D] w fun r w' => AskRes w g lv l E (unFin 12 (some f) (nP l 12 (p + 1))) r w' := by
  have hp := tk_lt (wordP_some hw).2
  have hglt := h.lt
  have HT := Lib.hid (fun W (hb : Bel w W) => take_no l lv p E g ⟨#[40]⟩ W (hl.keep (h0.tr hb)) hn (h.keep hb) ht)
  have HP0 := Lib.hid h
  have HW := Lib.hid hw
  have HREC := Lib.hid hrec
  clear hrec
  have HR0 := Lib.hid (Blk.new w 24 #[.int .i64 0, .int .i64 0, .slice none 0 0])
  have HB0 := Lib.hid ((Bel.rfl_ w).al (.cells #[.int .i64 0, .int .i64 0, .slice none 0 0] 24))
  have HSW : Hid (w.heap.size + 1 ≤ (w.alloc (.cells #[.int .i64 0, .int .i64 0, .slice none 0 0] 24)).heap.size) := Lib.hid (by simp)
  clear h ht hw
  go_enter Tryd.func46, Tryd.ntmps46
  go_upto_region 1 with fail
  generalize w.alloc (.cells #[.int .i64 0, .int .i64 0, .slice none 0 0] 24) = W0 at *
  go_wp2_with fail
  refine (HT.out _ HB0.out).mono ?_
  rintro r w1 ⟨rfl, hb1⟩
  have hb3 := (Bel.rfl_ w1).al (.cells #[.int .i64 1, .int .i64 2, .int .i64 3, .int .i64 4, .int .i64 5, .int .i64 6, .int .i64 7, .int .i64 10, .int .i64 11, .int .i64 12, .int .i64 14] 3)
  replace HB0 := Lib.hid ((HB0.out.tr hb1).tr hb3)
  replace HR0 := Lib.hid ((HR0.out.keep hb1).keep hb3)
  have HWD := Lib.hid (word_any l lv (.slice (some ⟨w1.heap.size, 0, none⟩) 11 11) unK p E g (w1.alloc (.cells #[.int .i64 1, .int .i64 2, .int .i64 3, .int .i64 4, .int .i64 5, .int .i64 6, .int .i64 7, .int .i64 10, .int .i64 11, .int .i64 12, .int .i64 14] 3)) (hl.keep (h0.tr HB0.out)) hn (HP0.out.keep HB0.out) (ints_blk (xs := [1, 2, 3, 4, 5, 6, 7, 10, 11, 12, 14]) (Blk.new w1 3 _) rfl (by decide)) (by decide) (by decide))
  replace HSW := Lib.hid (Nat.le_trans HSW.out (Nat.le_trans hb1.size hb3.size))
  clear hb1 hb3 HT HP0
  go_wp2_with fail
  refine HWD.out.mono ?_
  rintro r w2 hres
  rw [HW.out] at hres
  obtain ⟨hr2, hp2, hg2⟩ := hres
  obtain rfl : r = .returned (.int .i64 12) := hr2
  have hba := (Bel.rfl_ w2).al (.cells #[.int .i64 12, .int .i64 0, .slice none 0 0] 24)
  have HP := Lib.hid (hp2.keep hba)
  have HG := Lib.hid (((HB0.out.grown (some g)).trans hg2).trans (hba.grown (some g)))
  replace HR0 := Lib.hid ((HR0.out.grown hg2 (by simp; omega)).keep hba)
  have HAB := Lib.hid (Blk.new w2 24 #[.int .i64 12, .int .i64 0, .slice none 0 0])
  replace HSW := Lib.hid (Nat.le_trans HSW.out hg2.size)
  have hag : w.heap.size < w2.heap.size := by have := HSW.out; omega
  replace HSW := Lib.hid (Nat.le_trans HSW.out hba.size)
  clear hp2 hg2 hba HWD HB0
  go_upto_region 12 with fail
  generalize w2.alloc (.cells #[.int .i64 12, .int .i64 0, .slice none 0 0] 24) = W3 at *
  generalize w2.heap.size = GA at *
  have a0 := HAB.out.cell (i := 0) (v := .int .i64 12) rfl
  have a1 := HAB.out.cell (i := 1) (v := .int .i64 0) rfl
  have af := HAB.out.frozen 1
  have HN : Hid (nP l 12 (p + 1) = .ok 0 (p + 1)) := Lib.hid (by unfold nP; rw [if_neg (by decide), if_neg (by decide), if_neg (by decide)])
  go_upto_region 24 with fail
  clear a0 a1 af
  have b0 := HAB.out.cell (i := 0) (v := .int .i64 12) rfl
  have b1 := HAB.out.cell (i := 1) (v := .int .i64 0) rfl
  have b2 := HAB.out.cell (i := 2) (v := .slice none 0 0) rfl
  have bf := HAB.out.frozen 2
  have r0 := HR0.out.cell (i := 0) (v := .int .i64 0) rfl
  have r1 := HR0.out.cell (i := 1) (v := .int .i64 0) rfl
  have r2 := HR0.out.cell (i := 2) (v := .slice none 0 0) rfl
  have f0 := HR0.out.frozen 0
  have f1 := HR0.out.frozen 1
  have f2 := HR0.out.frozen 2
  go_wp2_with fail
  refine (((args_any 12 _).mono (R' := fun r w' => r = .returned (.int .i64 1) ∧ w' = _) fun _ _ h => ⟨h.1.trans (by rfl), h.2.symm⟩)).mono ?_
  rintro r wX ⟨rfl, rfl⟩
  have hd : (D == 60) = false := by simp; omega
  have HRC := Lib.hid (HREC.out (p + 1) _ (by first | omega | exact HN1.out) (grownBel h0 hg HG.out) HP.out)
  have HGL := Lib.hid (Nat.succ_le_of_lt HAB.out.lt)
  clear b0 b1 b2 bf r0 r1 r2 f0 f1 f2
  go_wp2_with fail
  refine HRC.out.mono ?_
  rintro r wY hres
  cases hR1 : f (p + 1) with
  | fail x =>
    obtain ⟨hg2, rfl⟩ := hres.bad hR1
    have HG2 := Lib.hid (HG.out.trans hg2)
    have HR1 := Lib.hid hR1
    clear hg2 hR1 hres
    go_wp2
    exact ⟨rfl, .mkBad (by rw [HN.out]; show unP 12 0 f (p + 1) = _; unfold unP; rw [HR1.out]) HG2.out⟩
  | ok a p2 =>
  obtain ⟨hg2, hp2, A1, c1, rfl, hs2⟩ := hres.good hR1
  have HR1 := Lib.hid hR1
  have hba := (Bel.rfl_ wY).al (.cells #[.int .i64 a.kind, .int .i64 a.n, .slice A1 a.args.length c1] 24)
  replace HP := Lib.hid (hp2.keep hba)
  replace HG := Lib.hid ((HG.out.trans hg2).trans (hba.grown (some g)))
  replace HR0 := Lib.hid ((HR0.out.grown hg2 (by simp; omega)).keep hba)
  replace HAB := Lib.hid ((HAB.out.grown hg2 (by simp; omega)).keep hba)
  have HSL := Lib.hid ((low_mono (B' := GA + 1) HGL.out hs2).keep (low_belB hba))
  have HQ := Lib.hid (Blk.new wY 24 #[.int .i64 a.kind, .int .i64 a.n, .slice A1 a.args.length c1])
  have hqa : GA + 1 ≤ wY.heap.size := Nat.le_trans HGL.out hg2.size
  clear hp2 hg2 hres hs2 hR1 hba HRC
  have b0 := HAB.out.cell (i := 0) (v := .int .i64 12) rfl
  have b1 := HAB.out.cell (i := 1) (v := .int .i64 0) rfl
  have b2 := HAB.out.cell (i := 2) (v := .slice none 0 0) rfl
  have bf := HAB.out.frozen 2
  go_upto_region 28 with fail
  generalize wY.alloc (.cells #[.int .i64 a.kind, .int .i64 a.n, .slice A1 a.args.length c1] 24) = W8 at *
  generalize wY.heap.size = GQ at *
  clear b0 b1 b2 bf
  have hsn := Nat.lt_succ_self GA
  have hsr : w.heap.size < GA + 1 := by omega
  replace HP := Lib.hid (HP.out.far_ (R := GA) (by omega) 2 (.slice (some ⟨GQ, 0, none⟩) 1 1))
  replace HG := Lib.hid (grownNew HG.out (R := GA) (by omega) 2 (.slice (some ⟨GQ, 0, none⟩) 1 1))
  replace HR0 := Lib.hid (HR0.out.far_ (R := GA) (by omega) 2 (.slice (some ⟨GQ, 0, none⟩) 1 1))
  replace HQ := Lib.hid (HQ.out.far_ (R := GA) (by omega) 2 (.slice (some ⟨GQ, 0, none⟩) 1 1))
  replace HSL := Lib.hid (HSL.out.keep (low_set W8 (i := 2) (.slice (some ⟨GQ, 0, none⟩) 1 1) hsn))
  replace HAB := Lib.hid (HAB.out.set_ 2 (.slice (some ⟨GQ, 0, none⟩) 1 1))
  generalize W8.setCell ⟨GA, 2, none⟩ (.slice (some ⟨GQ, 0, none⟩) 1 1) = W9 at *
  have b0 := HAB.out.cell (i := 0) (v := .int .i64 12) rfl
  have b1 := HAB.out.cell (i := 1) (v := .int .i64 0) rfl
  have b2 := HAB.out.cell (i := 2) (v := .slice (some ⟨GQ, 0, none⟩) 1 1) rfl
  have r0 := HR0.out.cell (i := 0) (v := .int .i64 0) rfl
  have r1 := HR0.out.cell (i := 1) (v := .int .i64 0) rfl
  have r2 := HR0.out.cell (i := 2) (v := .slice none 0 0) rfl
  have f0 := HR0.out.frozen 0
  have f1 := HR0.out.frozen 1
  have f2 := HR0.out.frozen 2
  go_wp2
  have hz := three_set (a := .int .i64 12) (b := .int .i64 0) (c := .slice (some ⟨GQ, 0, none⟩) 1 1) HR0.out
  have z0 := hz.cell (i := 0) rfl
  have z1 := hz.cell (i := 1) rfl
  have z2 := hz.cell (i := 2) rfl
  refine bodyPost_ret (v := .agg #[.int .i64 12, .int .i64 0, .slice (some ⟨GQ, 0, none⟩) 1 1]) (by simp [results, z0, z1, z2, go_sem]) rfl (.mkGood (k := 12) (n := 0) (args := [a]) (p := p2) (by rw [HN.out]; show unP 12 0 f (p + 1) = _; unfold unP; rw [HR1.out]; rfl) (grownNew (grownNew (grownNew HG.out (Nat.le_refl _) _ _) (Nat.le_refl _) _ _) (Nat.le_refl _) _ _) ?_ (((HP.out.far_ (by omega) 0 _).far_ (by omega) 1 _).far_ (by omega) 2 _))
  exact low_mono (Nat.le_of_lt hsr) (low_one (B := GA + 1) (((HQ.out.far_ (by omega) 0 _).far_ (by omega) 1 _).far_ (by omega) 2 _) hqa (((HSL.out.keep (low_set _ _ hsr)).keep (low_set _ _ hsr)).keep (low_set _ _ hsr)))

set_option maxRecDepth 20000 in
set_option maxHeartbeats 1000000 in
theorem un14_none (l : List Tok) (lv : Value) (p E g : Nat) (D : Int) (w0 w : World) (hl : Sl tokR w0 lv l) (hn : l.length ≤ 6000) (hok : ∀ t ∈ l, TokOk t) (h0 : Bel w0 w) (hg : w0.heap.size ≤ g) (h : Ps w g lv p E) (ht : tk l p lparB = false) (hw : wordP l unK p = some 14) (hD : D = 60)
    :
    Calls Tryd.prog 46 #[.pointer (some ⟨g, 0, none⟩), .int .i64 D] w fun r w' => AskRes w g lv l E (unFin 14 none (nP l 14 (p + 1))) r w' := by
  have hp := tk_lt (wordP_some hw).2
  have hglt := h.lt
  have HT := Lib.hid (fun W (hb : Bel w W) => take_no l lv p E g ⟨#[40]⟩ W (hl.keep (h0.tr hb)) hn (h.keep hb) ht)
  have HP0 := Lib.hid h
  have HW := Lib.hid hw
  subst hD
  have HR0 := Lib.hid (Blk.new w 24 #[.int .i64 0, .int .i64 0, .slice none 0 0])
  have HB0 := Lib.hid ((Bel.rfl_ w).al (.cells #[.int .i64 0, .int .i64 0, .slice none 0 0] 24))
  have HSW : Hid (w.heap.size + 1 ≤ (w.alloc (.cells #[.int .i64 0, .int .i64 0, .slice none 0 0] 24)).heap.size) := Lib.hid (by simp)
  clear h ht hw
  go_enter Tryd.func46, Tryd.ntmps46
  go_upto_region 1 with fail
  generalize w.alloc (.cells #[.int .i64 0, .int .i64 0, .slice none 0 0] 24) = W0 at *
  go_wp2_with fail
  refine (HT.out _ HB0.out).mono ?_
  rintro r w1 ⟨rfl, hb1⟩
  have hb3 := (Bel.rfl_ w1).al (.cells #[.int .i64 1, .int .i64 2, .int .i64 3, .int .i64 4, .int .i64 5, .int .i64 6, .int .i64 7, .int .i64 10, .int .i64 11, .int .i64 12, .int .i64 14] 3)
  replace HB0 := Lib.hid ((HB0.out.tr hb1).tr hb3)
  replace HR0 := Lib.hid ((HR0.out.keep hb1).keep hb3)
  have HWD := Lib.hid (word_any l lv (.slice (some ⟨w1.heap.size, 0, none⟩) 11 11) unK p E g (w1.alloc (.cells #[.int .i64 1, .int .i64 2, .int .i64 3, .int .i64 4, .int .i64 5, .int .i64 6, .int .i64 7, .int .i64 10, .int .i64 11, .int .i64 12, .int .i64 14] 3)) (hl.keep (h0.tr HB0.out)) hn (HP0.out.keep HB0.out) (ints_blk (xs := [1, 2, 3, 4, 5, 6, 7, 10, 11, 12, 14]) (Blk.new w1 3 _) rfl (by decide)) (by decide) (by decide))
  replace HSW := Lib.hid (Nat.le_trans HSW.out (Nat.le_trans hb1.size hb3.size))
  clear hb1 hb3 HT HP0
  go_wp2_with fail
  refine HWD.out.mono ?_
  rintro r w2 hres
  rw [HW.out] at hres
  obtain ⟨hr2, hp2, hg2⟩ := hres
  obtain rfl : r = .returned (.int .i64 14) := hr2
  have hba := (Bel.rfl_ w2).al (.cells #[.int .i64 14, .int .i64 0, .slice none 0 0] 24)
  have HP := Lib.hid (hp2.keep hba)
  have HG := Lib.hid (((HB0.out.grown (some g)).trans hg2).trans (hba.grown (some g)))
  replace HR0 := Lib.hid ((HR0.out.grown hg2 (by simp; omega)).keep hba)
  have HAB := Lib.hid (Blk.new w2 24 #[.int .i64 14, .int .i64 0, .slice none 0 0])
  replace HSW := Lib.hid (Nat.le_trans HSW.out hg2.size)
  have hag : w.heap.size < w2.heap.size := by have := HSW.out; omega
  replace HSW := Lib.hid (Nat.le_trans HSW.out hba.size)
  clear hp2 hg2 hba HWD HB0
  go_upto_region 12 with fail
  generalize w2.alloc (.cells #[.int .i64 14, .int .i64 0, .slice none 0 0] 24) = W3 at *
  generalize w2.heap.size = GA at *
  have a0 := HAB.out.cell (i := 0) (v := .int .i64 14) rfl
  have a1 := HAB.out.cell (i := 1) (v := .int .i64 0) rfl
  have af := HAB.out.frozen 1
  have HNP : Hid (nP l 14 (p + 1) = kP l false (p + 1)) := Lib.hid (by unfold nP; rw [if_neg (by decide)]; first | rw [if_pos (by decide)] | rw [if_neg (by decide), if_pos (by decide)])
  have HKC := Lib.hid (kF_any l lv (p + 1) E g w0 W3 hl hn hok (grownBel h0 hg HG.out) hg HP.out (by omega))
  go_wp2_with fail
  refine HKC.out.mono ?_
  rintro r W6 ⟨hg6, hres⟩
  have hn1 := kP_le (l := l) (m := false) (p := p + 1) (by omega)
  cases hk : kP l false (p + 1) with
  | fail x =>
    rw [hk] at hres
    obtain rfl : r = failV (place l E x) := hres
    have HN : Hid (nP l 14 (p + 1) = .fail x) := Lib.hid (by rw [HNP.out, hk])
    replace HG := Lib.hid (HG.out.trans hg6)
    clear hg6 hk hn1 HKC
    go_wp2
    exact ⟨rfl, .mkBad (by rw [HN.out]; rfl) HG.out⟩
  | ok n p1 =>
  rw [hk] at hres
  obtain ⟨rfl, hp6⟩ := hres
  have HN1 := Lib.hid (hn1.1 n p1 hk)
  have HN : Hid (nP l 14 (p + 1) = .ok n p1) := Lib.hid (by rw [HNP.out, hk])
  replace HP := Lib.hid hp6
  replace HG := Lib.hid (HG.out.trans hg6)
  replace HR0 := Lib.hid (HR0.out.grown hg6 (by simp; omega))
  replace HAB := Lib.hid (HAB.out.grown hg6 (by simp; omega))
  replace HSW := Lib.hid (Nat.le_trans HSW.out hg6.size)
  clear hp6 hg6 hk hn1 HKC a0 a1 af
  have a1 := HAB.out.cell (i := 1) (v := .int .i64 0) rfl
  have af := HAB.out.frozen 1
  go_upto_region 24 with fail
  clear a1 af
  replace HAB := Lib.hid (HAB.out.set_ 1 (.int .i64 n))
  replace HP := Lib.hid (HP.out.far_ (R := GA) (by omega) 1 (.int .i64 n))
  replace HR0 := Lib.hid (HR0.out.far_ (R := GA) (by omega) 1 (.int .i64 n))
  replace HG := Lib.hid (grownNew HG.out (R := GA) (by omega) 1 (.int .i64 n))
  replace HSW : Hid (w.heap.size + 1 ≤ (W6.setCell ⟨GA, 1, none⟩ (.int .i64 n)).heap.size) := Lib.hid (by simpa using HSW.out)
  generalize W6.setCell ⟨GA, 1, none⟩ (.int .i64 n) = W7 at *
  have b0 := HAB.out.cell (i := 0) (v := .int .i64 14) rfl
  have b1 := HAB.out.cell (i := 1) (v := .int .i64 n) rfl
  have b2 := HAB.out.cell (i := 2) (v := .slice none 0 0) rfl
  have bf := HAB.out.frozen 2
  have r0 := HR0.out.cell (i := 0) (v := .int .i64 0) rfl
  have r1 := HR0.out.cell (i := 1) (v := .int .i64 0) rfl
  have r2 := HR0.out.cell (i := 2) (v := .slice none 0 0) rfl
  have f0 := HR0.out.frozen 0
  have f1 := HR0.out.frozen 1
  have f2 := HR0.out.frozen 2
  go_wp2_with fail
  refine (((args_any 14 _).mono (R' := fun r w' => r = .returned (.int .i64 1) ∧ w' = _) fun _ _ h => ⟨h.1.trans (by rfl), h.2.symm⟩)).mono ?_
  rintro r wX ⟨rfl, rfl⟩
  have HFL := Lib.hid (fail_any l lv p1 E g _ (hl.keep (grownBel h0 hg HG.out)) hn HP.out)
  go_wp2_with fail
  refine HFL.out.mono ?_
  rintro r wY ⟨rfl, hbY⟩
  replace HG := Lib.hid (HG.out.trans (hbY.grown (some g)))
  clear hbY HFL
  go_wp2
  exact ⟨rfl, .mkBad (by rw [HN.out]; rfl) HG.out⟩

set_option maxRecDepth 20000 in
set_option maxHeartbeats 1000000 in
theorem un14_some (l : List Tok) (lv : Value) (p E g : Nat) (D : Int) (f : Nat → PR Ask) (w0 w : World) (hl : Sl tokR w0 lv l) (hn : l.length ≤ 6000) (hok : ∀ t ∈ l, TokOk t) (h0 : Bel w0 w) (hg : w0.heap.size ≤ g) (h : Ps w g lv p E) (ht : tk l p lparB = false) (hw : wordP l unK p = some 14)
    (hD : 0 ≤ D ∧ D < 60) (hrec : ∀ q W, q ≤ l.length → Bel w0 W → Ps W g lv q E → Calls Tryd.prog 46 #[.pointer (some ⟨g, 0, none⟩), .int .i64 (D + 1)] W fun r w' => AskRes W g lv l E (f q) r w')
    :
    Calls Tryd.prog 46 #[.pointer (some ⟨g, 0, none⟩), .int .i64 D] w fun r w' => AskRes w g lv l E (unFin 14 (some f) (nP l 14 (p + 1))) r w' := by
  have hp := tk_lt (wordP_some hw).2
  have hglt := h.lt
  have HT := Lib.hid (fun W (hb : Bel w W) => take_no l lv p E g ⟨#[40]⟩ W (hl.keep (h0.tr hb)) hn (h.keep hb) ht)
  have HP0 := Lib.hid h
  have HW := Lib.hid hw
  have HREC := Lib.hid hrec
  clear hrec
  have HR0 := Lib.hid (Blk.new w 24 #[.int .i64 0, .int .i64 0, .slice none 0 0])
  have HB0 := Lib.hid ((Bel.rfl_ w).al (.cells #[.int .i64 0, .int .i64 0, .slice none 0 0] 24))
  have HSW : Hid (w.heap.size + 1 ≤ (w.alloc (.cells #[.int .i64 0, .int .i64 0, .slice none 0 0] 24)).heap.size) := Lib.hid (by simp)
  clear h ht hw
  go_enter Tryd.func46, Tryd.ntmps46
  go_upto_region 1 with fail
  generalize w.alloc (.cells #[.int .i64 0, .int .i64 0, .slice none 0 0] 24) = W0 at *
  go_wp2_with fail
  refine (HT.out _ HB0.out).mono ?_
  rintro r w1 ⟨rfl, hb1⟩
  have hb3 := (Bel.rfl_ w1).al (.cells #[.int .i64 1, .int .i64 2, .int .i64 3, .int .i64 4, .int .i64 5, .int .i64 6, .int .i64 7, .int .i64 10, .int .i64 11, .int .i64 12, .int .i64 14] 3)
  replace HB0 := Lib.hid ((HB0.out.tr hb1).tr hb3)
  replace HR0 := Lib.hid ((HR0.out.keep hb1).keep hb3)
  have HWD := Lib.hid (word_any l lv (.slice (some ⟨w1.heap.size, 0, none⟩) 11 11) unK p E g (w1.alloc (.cells #[.int .i64 1, .int .i64 2, .int .i64 3, .int .i64 4, .int .i64 5, .int .i64 6, .int .i64 7, .int .i64 10, .int .i64 11, .int .i64 12, .int .i64 14] 3)) (hl.keep (h0.tr HB0.out)) hn (HP0.out.keep HB0.out) (ints_blk (xs := [1, 2, 3, 4, 5, 6, 7, 10, 11, 12, 14]) (Blk.new w1 3 _) rfl (by decide)) (by decide) (by decide))
  replace HSW := Lib.hid (Nat.le_trans HSW.out (Nat.le_trans hb1.size hb3.size))
  clear hb1 hb3 HT HP0
  go_wp2_with fail
  refine HWD.out.mono ?_
  rintro r w2 hres
  rw [HW.out] at hres
  obtain ⟨hr2, hp2, hg2⟩ := hres
  obtain rfl : r = .returned (.int .i64 14) := hr2
  have hba := (Bel.rfl_ w2).al (.cells #[.int .i64 14, .int .i64 0, .slice none 0 0] 24)
  have HP := Lib.hid (hp2.keep hba)
  have HG := Lib.hid (((HB0.out.grown (some g)).trans hg2).trans (hba.grown (some g)))
  replace HR0 := Lib.hid ((HR0.out.grown hg2 (by simp; omega)).keep hba)
  have HAB := Lib.hid (Blk.new w2 24 #[.int .i64 14, .int .i64 0, .slice none 0 0])
  replace HSW := Lib.hid (Nat.le_trans HSW.out hg2.size)
  have hag : w.heap.size < w2.heap.size := by have := HSW.out; omega
  replace HSW := Lib.hid (Nat.le_trans HSW.out hba.size)
  clear hp2 hg2 hba HWD HB0
  go_upto_region 12 with fail
  generalize w2.alloc (.cells #[.int .i64 14, .int .i64 0, .slice none 0 0] 24) = W3 at *
  generalize w2.heap.size = GA at *
  have a0 := HAB.out.cell (i := 0) (v := .int .i64 14) rfl
  have a1 := HAB.out.cell (i := 1) (v := .int .i64 0) rfl
  have af := HAB.out.frozen 1
  have HNP : Hid (nP l 14 (p + 1) = kP l false (p + 1)) := Lib.hid (by unfold nP; rw [if_neg (by decide)]; first | rw [if_pos (by decide)] | rw [if_neg (by decide), if_pos (by decide)])
  have HKC := Lib.hid (kF_any l lv (p + 1) E g w0 W3 hl hn hok (grownBel h0 hg HG.out) hg HP.out (by omega))
  go_wp2_with fail
  refine HKC.out.mono ?_
  rintro r W6 ⟨hg6, hres⟩
  have hn1 := kP_le (l := l) (m := false) (p := p + 1) (by omega)
  cases hk : kP l false (p + 1) with
  | fail x =>
    rw [hk] at hres
    obtain rfl : r = failV (place l E x) := hres
    have HN : Hid (nP l 14 (p + 1) = .fail x) := Lib.hid (by rw [HNP.out, hk])
    replace HG := Lib.hid (HG.out.trans hg6)
    clear hg6 hk hn1 HKC
    go_wp2
    exact ⟨rfl, .mkBad (by rw [HN.out]; rfl) HG.out⟩
  | ok n p1 =>
  rw [hk] at hres
  obtain ⟨rfl, hp6⟩ := hres
  have HN1 := Lib.hid (hn1.1 n p1 hk)
  have HN : Hid (nP l 14 (p + 1) = .ok n p1) := Lib.hid (by rw [HNP.out, hk])
  replace HP := Lib.hid hp6
  replace HG := Lib.hid (HG.out.trans hg6)
  replace HR0 := Lib.hid (HR0.out.grown hg6 (by simp; omega))
  replace HAB := Lib.hid (HAB.out.grown hg6 (by simp; omega))
  replace HSW := Lib.hid (Nat.le_trans HSW.out hg6.size)
  clear hp6 hg6 hk hn1 HKC a0 a1 af
  have a1 := HAB.out.cell (i := 1) (v := .int .i64 0) rfl
  have af := HAB.out.frozen 1
  go_upto_region 24 with fail
  clear a1 af
  replace HAB := Lib.hid (HAB.out.set_ 1 (.int .i64 n))
  replace HP := Lib.hid (HP.out.far_ (R := GA) (by omega) 1 (.int .i64 n))
  replace HR0 := Lib.hid (HR0.out.far_ (R := GA) (by omega) 1 (.int .i64 n))
  replace HG := Lib.hid (grownNew HG.out (R := GA) (by omega) 1 (.int .i64 n))
  replace HSW : Hid (w.heap.size + 1 ≤ (W6.setCell ⟨GA, 1, none⟩ (.int .i64 n)).heap.size) := Lib.hid (by simpa using HSW.out)
  generalize W6.setCell ⟨GA, 1, none⟩ (.int .i64 n) = W7 at *
  have b0 := HAB.out.cell (i := 0) (v := .int .i64 14) rfl
  have b1 := HAB.out.cell (i := 1) (v := .int .i64 n) rfl
  have b2 := HAB.out.cell (i := 2) (v := .slice none 0 0) rfl
  have bf := HAB.out.frozen 2
  have r0 := HR0.out.cell (i := 0) (v := .int .i64 0) rfl
  have r1 := HR0.out.cell (i := 1) (v := .int .i64 0) rfl
  have r2 := HR0.out.cell (i := 2) (v := .slice none 0 0) rfl
  have f0 := HR0.out.frozen 0
  have f1 := HR0.out.frozen 1
  have f2 := HR0.out.frozen 2
  go_wp2_with fail
  refine (((args_any 14 _).mono (R' := fun r w' => r = .returned (.int .i64 1) ∧ w' = _) fun _ _ h => ⟨h.1.trans (by rfl), h.2.symm⟩)).mono ?_
  rintro r wX ⟨rfl, rfl⟩
  have hd : (D == 60) = false := by simp; omega
  have HRC := Lib.hid (HREC.out p1 _ (by first | omega | exact HN1.out) (grownBel h0 hg HG.out) HP.out)
  have HGL := Lib.hid (Nat.succ_le_of_lt HAB.out.lt)
  clear b0 b1 b2 bf r0 r1 r2 f0 f1 f2
  go_wp2_with fail
  refine HRC.out.mono ?_
  rintro r wY hres
  cases hR1 : f p1 with
  | fail x =>
    obtain ⟨hg2, rfl⟩ := hres.bad hR1
    have HG2 := Lib.hid (HG.out.trans hg2)
    have HR1 := Lib.hid hR1
    clear hg2 hR1 hres
    go_wp2
    exact ⟨rfl, .mkBad (by rw [HN.out]; show unP 14 n f p1 = _; unfold unP; rw [HR1.out]) HG2.out⟩
  | ok a p2 =>
  obtain ⟨hg2, hp2, A1, c1, rfl, hs2⟩ := hres.good hR1
  have HR1 := Lib.hid hR1
  have hba := (Bel.rfl_ wY).al (.cells #[.int .i64 a.kind, .int .i64 a.n, .slice A1 a.args.length c1] 24)
  replace HP := Lib.hid (hp2.keep hba)
  replace HG := Lib.hid ((HG.out.trans hg2).trans (hba.grown (some g)))
  replace HR0 := Lib.hid ((HR0.out.grown hg2 (by simp; omega)).keep hba)
  replace HAB := Lib.hid ((HAB.out.grown hg2 (by simp; omega)).keep hba)
  have HSL := Lib.hid ((low_mono (B' := GA + 1) HGL.out hs2).keep (low_belB hba))
  have HQ := Lib.hid (Blk.new wY 24 #[.int .i64 a.kind, .int .i64 a.n, .slice A1 a.args.length c1])
  have hqa : GA + 1 ≤ wY.heap.size := Nat.le_trans HGL.out hg2.size
  clear hp2 hg2 hres hs2 hR1 hba HRC
  have b0 := HAB.out.cell (i := 0) (v := .int .i64 14) rfl
  have b1 := HAB.out.cell (i := 1) (v := .int .i64 n) rfl
  have b2 := HAB.out.cell (i := 2) (v := .slice none 0 0) rfl
  have bf := HAB.out.frozen 2
  go_upto_region 28 with fail
  generalize wY.alloc (.cells #[.int .i64 a.kind, .int .i64 a.n, .slice A1 a.args.length c1] 24) = W8 at *
  generalize wY.heap.size = GQ at *
  clear b0 b1 b2 bf
  have hsn := Nat.lt_succ_self GA
  have hsr : w.heap.size < GA + 1 := by omega
  replace HP := Lib.hid (HP.out.far_ (R := GA) (by omega) 2 (.slice (some ⟨GQ, 0, none⟩) 1 1))
  replace HG := Lib.hid (grownNew HG.out (R := GA) (by omega) 2 (.slice (some ⟨GQ, 0, none⟩) 1 1))
  replace HR0 := Lib.hid (HR0.out.far_ (R := GA) (by omega) 2 (.slice (some ⟨GQ, 0, none⟩) 1 1))
  replace HQ := Lib.hid (HQ.out.far_ (R := GA) (by omega) 2 (.slice (some ⟨GQ, 0, none⟩) 1 1))
  replace HSL := Lib.hid (HSL.out.keep (low_set W8 (i := 2) (.slice (some ⟨GQ, 0, none⟩) 1 1) hsn))
  replace HAB := Lib.hid (HAB.out.set_ 2 (.slice (some ⟨GQ, 0, none⟩) 1 1))
  generalize W8.setCell ⟨GA, 2, none⟩ (.slice (some ⟨GQ, 0, none⟩) 1 1) = W9 at *
  have b0 := HAB.out.cell (i := 0) (v := .int .i64 14) rfl
  have b1 := HAB.out.cell (i := 1) (v := .int .i64 n) rfl
  have b2 := HAB.out.cell (i := 2) (v := .slice (some ⟨GQ, 0, none⟩) 1 1) rfl
  have r0 := HR0.out.cell (i := 0) (v := .int .i64 0) rfl
  have r1 := HR0.out.cell (i := 1) (v := .int .i64 0) rfl
  have r2 := HR0.out.cell (i := 2) (v := .slice none 0 0) rfl
  have f0 := HR0.out.frozen 0
  have f1 := HR0.out.frozen 1
  have f2 := HR0.out.frozen 2
  go_wp2
  have hz := three_set (a := .int .i64 14) (b := .int .i64 n) (c := .slice (some ⟨GQ, 0, none⟩) 1 1) HR0.out
  have z0 := hz.cell (i := 0) rfl
  have z1 := hz.cell (i := 1) rfl
  have z2 := hz.cell (i := 2) rfl
  refine bodyPost_ret (v := .agg #[.int .i64 14, .int .i64 n, .slice (some ⟨GQ, 0, none⟩) 1 1]) (by simp [results, z0, z1, z2, go_sem]) rfl (.mkGood (k := 14) (n := n) (args := [a]) (p := p2) (by rw [HN.out]; show unP 14 n f p1 = _; unfold unP; rw [HR1.out]; rfl) (grownNew (grownNew (grownNew HG.out (Nat.le_refl _) _ _) (Nat.le_refl _) _ _) (Nat.le_refl _) _ _) ?_ (((HP.out.far_ (by omega) 0 _).far_ (by omega) 1 _).far_ (by omega) 2 _))
  exact low_mono (Nat.le_of_lt hsr) (low_one (B := GA + 1) (((HQ.out.far_ (by omega) 0 _).far_ (by omega) 1 _).far_ (by omega) 2 _) hqa (((HSL.out.keep (low_set _ _ hsr)).keep (low_set _ _ hsr)).keep (low_set _ _ hsr)))

end Go.Proofs.YtegknpffiaeohaaDoor
