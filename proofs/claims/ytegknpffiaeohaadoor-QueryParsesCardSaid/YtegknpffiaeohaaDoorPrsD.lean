/- The parser's query without brackets, by its kind: walked. Each lemma states its own conditions. -/
import Derived.Test.YtegknpffiaeohaaDoorPrsC
namespace Go.Proofs.YtegknpffiaeohaaDoor
open Go.RowKit

/-- behind a kind and its number -/
def unFin (k : Nat) (rec : Option (Nat → PR Ask)) (r : PR Int) : PR Ask :=
  match r with
  | .fail x => .fail x
  | .ok n p1 => if un k then (match rec with
      | none => .fail p1
      | some f => unP k n f p1)
    else .ok (.mk k n []) p1

set_option maxRecDepth 20000 in
set_option maxHeartbeats 1000000 in
theorem un1_non (l : List Tok) (lv : Value) (p E g : Nat) (D : Int) (rec : Option (Nat → PR Ask)) (w0 w : World) (hl : Sl tokR w0 lv l) (hn : l.length ≤ 6000) (hok : ∀ t ∈ l, TokOk t) (h0 : Bel w0 w) (hg : w0.heap.size ≤ g) (h : Ps w g lv p E) (ht : tk l p lparB = false) (hw : wordP l unK p = some 1)
    :
    Calls Tryd.prog 46 #[.pointer (some ⟨g, 0, none⟩), .int .i64 D] w fun r w' => AskRes w g lv l E (unFin 1 rec (nP l 1 (p + 1))) r w' := by
  have hp := tk_lt (wordP_some hw).2
  have hglt := h.lt
  have HT := Lib.hid (fun W (hb : Bel w W) => take_no l lv p E g ⟨#[40]⟩ W (hl.keep (h0.tr hb)) hn (h.keep hb) ht)
  have HP0 := Lib.hid h
  have HW := Lib.hid hw
  have HR0 := Lib.hid (Blk.new w 24 #[.int .i64 0, .int .i64 0, .slice none 0 0])
  have HB0 := Lib.hid ((Bel.rfl_ w).al (.cells #[.int .i64 0, .int .i64 0, .slice none 0 0] 24))
  have HSW : Hid (w.heap.size + 1 ≤ (w.alloc (.cells #[.int .i64 0, .int .i64 0, .slice none 0 0] 24)).heap.size) := Lib.hid (by simp)
  clear h ht hw
  go_enter Tryd.func46, Tryd.ntmps46
  go_upto_region 1 with fail
  generalize w.alloc (.cells #[.int .i64 0, .int .i64 0, .slice none 0 0] 24) = W0 at *
  go_wp2_with fail
  refine (HT.out _ HB0.out).mono ?_
  rintro r w1 ⟨rfl, hb1⟩
  have hb3 := (Bel.rfl_ w1).al (.cells #[.int .i64 1, .int .i64 2, .int .i64 3, .int .i64 4, .int .i64 5, .int .i64 6, .int .i64 7, .int .i64 10, .int .i64 11, .int .i64 12, .int .i64 14] 3)
  replace HB0 := Lib.hid ((HB0.out.tr hb1).tr hb3)
  replace HR0 := Lib.hid ((HR0.out.keep hb1).keep hb3)
  have HWD := Lib.hid (word_any l lv (.slice (some ⟨w1.heap.size, 0, none⟩) 11 11) unK p E g (w1.alloc (.cells #[.int .i64 1, .int .i64 2, .int .i64 3, .int .i64 4, .int .i64 5, .int .i64 6, .int .i64 7, .int .i64 10, .int .i64 11, .int .i64 12, .int .i64 14] 3)) (hl.keep (h0.tr HB0.out)) hn (HP0.out.keep HB0.out) (ints_blk (xs := [1, 2, 3, 4, 5, 6, 7, 10, 11, 12, 14]) (Blk.new w1 3 _) rfl (by decide)) (by decide) (by decide))
  replace HSW := Lib.hid (Nat.le_trans HSW.out (Nat.le_trans hb1.size hb3.size))
  clear hb1 hb3 HT HP0
  go_wp2_with fail
  refine HWD.out.mono ?_
  rintro r w2 hres
  rw [HW.out] at hres
  obtain ⟨hr2, hp2, hg2⟩ := hres
  obtain rfl : r = .returned (.int .i64 1) := hr2
  have hba := (Bel.rfl_ w2).al (.cells #[.int .i64 1, .int .i64 0, .slice none 0 0] 24)
  have HP := Lib.hid (hp2.keep hba)
  have HG := Lib.hid (((HB0.out.grown (some g)).trans hg2).trans (hba.grown (some g)))
  replace HR0 := Lib.hid ((HR0.out.grown hg2 (by simp; omega)).keep hba)
  have HAB := Lib.hid (Blk.new w2 24 #[.int .i64 1, .int .i64 0, .slice none 0 0])
  replace HSW := Lib.hid (Nat.le_trans HSW.out hg2.size)
  have hag : w.heap.size < w2.heap.size := by have := HSW.out; omega
  replace HSW := Lib.hid (Nat.le_trans HSW.out hba.size)
  clear hp2 hg2 hba HWD HB0
  go_upto_region 12 with fail
  generalize w2.alloc (.cells #[.int .i64 1, .int .i64 0, .slice none 0 0] 24) = W3 at *
  generalize w2.heap.size = GA at *
  have a0 := HAB.out.cell (i := 0) (v := .int .i64 1) rfl
  have a1 := HAB.out.cell (i := 1) (v := .int .i64 0) rfl
  have af := HAB.out.frozen 1
  by_cases ht2 : tk l (p + 1) anyB = true
  · have HTY := Lib.hid (fun W (hb : Bel w0 W) (hps : Ps W g lv (p + 1) E) => take_yes l lv (p + 1) E g ⟨#[97, 110, 121]⟩ W (hl.keep hb) hn hps ht2)
    have HN : Hid (nP l 1 (p + 1) = .ok (-1) (p + 2)) := Lib.hid (by unfold nP; rw [if_pos (by decide), if_pos ht2])
    clear ht2
    go_upto_region 17 with fail
    clear a0 a1 af
    replace HAB := Lib.hid (HAB.out.set_ 1 (.int .i64 (-1)))
    replace HP := Lib.hid (HP.out.far_ (R := GA) (by omega) 1 (.int .i64 (-1)))
    replace HR0 := Lib.hid (HR0.out.far_ (R := GA) (by omega) 1 (.int .i64 (-1)))
    replace HG := Lib.hid (grownNew HG.out (R := GA) (by omega) 1 (.int .i64 (-1)))
    replace HSW : Hid (w.heap.size + 1 ≤ (W3.setCell ⟨GA, 1, none⟩ (.int .i64 (-1))).heap.size) := Lib.hid (by simpa using HSW.out)
    generalize W3.setCell ⟨GA, 1, none⟩ (.int .i64 (-1)) = W4 at *
    go_wp2_with fail
    refine (HTY.out _ (grownBel h0 hg HG.out) HP.out).mono ?_
    rintro r W5 ⟨rfl, hp5, hg5⟩
    replace HP := Lib.hid hp5
    replace HG := Lib.hid (HG.out.trans hg5)
    replace HR0 := Lib.hid (HR0.out.grown hg5 (by simp; omega))
    replace HAB := Lib.hid (HAB.out.grown hg5 (by simp; omega))
    replace HSW := Lib.hid (Nat.le_trans HSW.out hg5.size)
    clear hp5 hg5 HTY
    go_upto_region 24 with fail
    have b0 := HAB.out.cell (i := 0) (v := .int .i64 1) rfl
    have b1 := HAB.out.cell (i := 1) (v := .int .i64 (-1)) rfl
    have b2 := HAB.out.cell (i := 2) (v := .slice none 0 0) rfl
    have bf := HAB.out.frozen 2
    have r0 := HR0.out.cell (i := 0) (v := .int .i64 0) rfl
    have r1 := HR0.out.cell (i := 1) (v := .int .i64 0) rfl
    have r2 := HR0.out.cell (i := 2) (v := .slice none 0 0) rfl
    have f0 := HR0.out.frozen 0
    have f1 := HR0.out.frozen 1
    have f2 := HR0.out.frozen 2
    go_wp2_with fail
    refine (((args_any 1 _).mono (R' := fun r w' => r = .returned (.int .i64 0) ∧ w' = _) fun _ _ h => ⟨h.1.trans (by rfl), h.2.symm⟩)).mono ?_
    rintro r wX ⟨rfl, rfl⟩
    go_wp2
    have hz := three_set (a := .int .i64 1) (b := .int .i64 (-1)) (c := .slice none 0 0) HR0.out
    have z0 := hz.cell (i := 0) rfl
    have z1 := hz.cell (i := 1) rfl
    have z2 := hz.cell (i := 2) rfl
    refine bodyPost_ret (v := .agg #[.int .i64 1, .int .i64 (-1), .slice none 0 0]) (by simp [results, z0, z1, z2, go_sem]) rfl (.mkGood (k := 1) (n := (-1)) (args := []) (p := (p + 2)) (by rw [HN.out]; rfl) (grownNew (grownNew (grownNew HG.out (Nat.le_refl _) _ _) (Nat.le_refl _) _ _) (Nat.le_refl _) _ _) (Sl.nil_ _ _) (((HP.out.far_ (by omega) 0 _).far_ (by omega) 1 _).far_ (by omega) 2 _))
  have ht2 : tk l (p + 1) anyB = false := by simpa using ht2
  have HTN := Lib.hid (fun W (hb : Bel w0 W) (hps : Ps W g lv (p + 1) E) => take_no l lv (p + 1) E g ⟨#[97, 110, 121]⟩ W (hl.keep hb) hn hps ht2)
  have HNP : Hid (nP l 1 (p + 1) = kP l false (p + 1)) := Lib.hid (by unfold nP; rw [if_pos (by decide), if_neg (by rw [ht2]; decide)])
  clear ht2
  go_upto_region 17 with fail
  clear a0 a1 af
  replace HAB := Lib.hid (HAB.out.set_ 1 (.int .i64 (-1)))
  replace HP := Lib.hid (HP.out.far_ (R := GA) (by omega) 1 (.int .i64 (-1)))
  replace HR0 := Lib.hid (HR0.out.far_ (R := GA) (by omega) 1 (.int .i64 (-1)))
  replace HG := Lib.hid (grownNew HG.out (R := GA) (by omega) 1 (.int .i64 (-1)))
  replace HSW : Hid (w.heap.size + 1 ≤ (W3.setCell ⟨GA, 1, none⟩ (.int .i64 (-1))).heap.size) := Lib.hid (by simpa using HSW.out)
  generalize W3.setCell ⟨GA, 1, none⟩ (.int .i64 (-1)) = W4 at *
  go_wp2_with fail
  refine (HTN.out _ (grownBel h0 hg HG.out) HP.out).mono ?_
  rintro r W5 ⟨rfl, hb5⟩
  replace HP := Lib.hid (HP.out.keep hb5)
  have hg5 := hb5.grown (some g)
  replace HG := Lib.hid (HG.out.trans hg5)
  replace HR0 := Lib.hid (HR0.out.grown hg5 (by simp; omega))
  replace HAB := Lib.hid (HAB.out.grown hg5 (by simp; omega))
  replace HSW := Lib.hid (Nat.le_trans HSW.out hg5.size)
  clear hb5 hg5 HTN
  have HKC := Lib.hid (kF_any l lv (p + 1) E g w0 W5 hl hn hok (grownBel h0 hg HG.out) hg HP.out (by omega))
  have a1 := HAB.out.cell (i := 1) (v := .int .i64 (-1)) rfl
  go_wp2_with fail
  refine HKC.out.mono ?_
  rintro r W6 ⟨hg6, hres⟩
  have hn1 := kP_le (l := l) (m := false) (p := p + 1) (by omega)
  cases hk : kP l false (p + 1) with
  | fail x =>
    rw [hk] at hres
    obtain rfl : r = failV (place l E x) := hres
    have HN : Hid (nP l 1 (p + 1) = .fail x) := Lib.hid (by rw [HNP.out, hk])
    replace HG := Lib.hid (HG.out.trans hg6)
    clear hg6 hk hn1 HKC
    go_wp2
    exact ⟨rfl, .mkBad (by rw [HN.out]; rfl) HG.out⟩
  | ok n p1 =>
  rw [hk] at hres
  obtain ⟨rfl, hp6⟩ := hres
  have HN1 := Lib.hid (hn1.1 n p1 hk)
  have HN : Hid (nP l 1 (p + 1) = .ok n p1) := Lib.hid (by rw [HNP.out, hk])
  replace HP := Lib.hid hp6
  replace HG := Lib.hid (HG.out.trans hg6)
  replace HR0 := Lib.hid (HR0.out.grown hg6 (by simp; omega))
  replace HAB := Lib.hid (HAB.out.grown hg6 (by simp; omega))
  replace HSW := Lib.hid (Nat.le_trans HSW.out hg6.size)
  clear hp6 hg6 hk hn1 HKC a1
  have a1 := HAB.out.cell (i := 1) (v := .int .i64 (-1)) rfl
  have af := HAB.out.frozen 1
  go_upto_region 24 with fail
  clear a1 af
  replace HAB := Lib.hid (HAB.out.set_ 1 (.int .i64 n))
  replace HP := Lib.hid (HP.out.far_ (R := GA) (by omega) 1 (.int .i64 n))
  replace HR0 := Lib.hid (HR0.out.far_ (R := GA) (by omega) 1 (.int .i64 n))
  replace HG := Lib.hid (grownNew HG.out (R := GA) (by omega) 1 (.int .i64 n))
  replace HSW : Hid (w.heap.size + 1 ≤ (W6.setCell ⟨GA, 1, none⟩ (.int .i64 n)).heap.size) := Lib.hid (by simpa using HSW.out)
  generalize W6.setCell ⟨GA, 1, none⟩ (.int .i64 n) = W7 at *
  have b0 := HAB.out.cell (i := 0) (v := .int .i64 1) rfl
  have b1 := HAB.out.cell (i := 1) (v := .int .i64 n) rfl
  have b2 := HAB.out.cell (i := 2) (v := .slice none 0 0) rfl
  have bf := HAB.out.frozen 2
  have r0 := HR0.out.cell (i := 0) (v := .int .i64 0) rfl
  have r1 := HR0.out.cell (i := 1) (v := .int .i64 0) rfl
  have r2 := HR0.out.cell (i := 2) (v := .slice none 0 0) rfl
  have f0 := HR0.out.frozen 0
  have f1 := HR0.out.frozen 1
  have f2 := HR0.out.frozen 2
  go_wp2_with fail
  refine (((args_any 1 _).mono (R' := fun r w' => r = .returned (.int .i64 0) ∧ w' = _) fun _ _ h => ⟨h.1.trans (by rfl), h.2.symm⟩)).mono ?_
  rintro r wX ⟨rfl, rfl⟩
  go_wp2
  have hz := three_set (a := .int .i64 1) (b := .int .i64 n) (c := .slice none 0 0) HR0.out
  have z0 := hz.cell (i := 0) rfl
  have z1 := hz.cell (i := 1) rfl
  have z2 := hz.cell (i := 2) rfl
  refine bodyPost_ret (v := .agg #[.int .i64 1, .int .i64 n, .slice none 0 0]) (by simp [results, z0, z1, z2, go_sem]) rfl (.mkGood (k := 1) (n := n) (args := []) (p := p1) (by rw [HN.out]; rfl) (grownNew (grownNew (grownNew HG.out (Nat.le_refl _) _ _) (Nat.le_refl _) _ _) (Nat.le_refl _) _ _) (Sl.nil_ _ _) (((HP.out.far_ (by omega) 0 _).far_ (by omega) 1 _).far_ (by omega) 2 _))

set_option maxRecDepth 20000 in
set_option maxHeartbeats 1000000 in
theorem un2_non (l : List Tok) (lv : Value) (p E g : Nat) (D : Int) (rec : Option (Nat → PR Ask)) (w0 w : World) (hl : Sl tokR w0 lv l) (hn : l.length ≤ 6000) (hok : ∀ t ∈ l, TokOk t) (h0 : Bel w0 w) (hg : w0.heap.size ≤ g) (h : Ps w g lv p E) (ht : tk l p lparB = false) (hw : wordP l unK p = some 2)
    :
    Calls Tryd.prog 46 #[.pointer (some ⟨g, 0, none⟩), .int .i64 D] w fun r w' => AskRes w g lv l E (unFin 2 rec (nP l 2 (p + 1))) r w' := by
  have hp := tk_lt (wordP_some hw).2
  have hglt := h.lt
  have HT := Lib.hid (fun W (hb : Bel w W) => take_no l lv p E g ⟨#[40]⟩ W (hl.keep (h0.tr hb)) hn (h.keep hb) ht)
  have HP0 := Lib.hid h
  have HW := Lib.hid hw
  have HR0 := Lib.hid (Blk.new w 24 #[.int .i64 0, .int .i64 0, .slice none 0 0])
  have HB0 := Lib.hid ((Bel.rfl_ w).al (.cells #[.int .i64 0, .int .i64 0, .slice none 0 0] 24))
  have HSW : Hid (w.heap.size + 1 ≤ (w.alloc (.cells #[.int .i64 0, .int .i64 0, .slice none 0 0] 24)).heap.size) := Lib.hid (by simp)
  clear h ht hw
  go_enter Tryd.func46, Tryd.ntmps46
  go_upto_region 1 with fail
  generalize w.alloc (.cells #[.int .i64 0, .int .i64 0, .slice none 0 0] 24) = W0 at *
  go_wp2_with fail
  refine (HT.out _ HB0.out).mono ?_
  rintro r w1 ⟨rfl, hb1⟩
  have hb3 := (Bel.rfl_ w1).al (.cells #[.int .i64 1, .int .i64 2, .int .i64 3, .int .i64 4, .int .i64 5, .int .i64 6, .int .i64 7, .int .i64 10, .int .i64 11, .int .i64 12, .int .i64 14] 3)
  replace HB0 := Lib.hid ((HB0.out.tr hb1).tr hb3)
  replace HR0 := Lib.hid ((HR0.out.keep hb1).keep hb3)
  have HWD := Lib.hid (word_any l lv (.slice (some ⟨w1.heap.size, 0, none⟩) 11 11) unK p E g (w1.alloc (.cells #[.int .i64 1, .int .i64 2, .int .i64 3, .int .i64 4, .int .i64 5, .int .i64 6, .int .i64 7, .int .i64 10, .int .i64 11, .int .i64 12, .int .i64 14] 3)) (hl.keep (h0.tr HB0.out)) hn (HP0.out.keep HB0.out) (ints_blk (xs := [1, 2, 3, 4, 5, 6, 7, 10, 11, 12, 14]) (Blk.new w1 3 _) rfl (by decide)) (by decide) (by decide))
  replace HSW := Lib.hid (Nat.le_trans HSW.out (Nat.le_trans hb1.size hb3.size))
  clear hb1 hb3 HT HP0
  go_wp2_with fail
  refine HWD.out.mono ?_
  rintro r w2 hres
  rw [HW.out] at hres
  obtain ⟨hr2, hp2, hg2⟩ := hres
  obtain rfl : r = .returned (.int .i64 2) := hr2
  have hba := (Bel.rfl_ w2).al (.cells #[.int .i64 2, .int .i64 0, .slice none 0 0] 24)
  have HP := Lib.hid (hp2.keep hba)
  have HG := Lib.hid (((HB0.out.grown (some g)).trans hg2).trans (hba.grown (some g)))
  replace HR0 := Lib.hid ((HR0.out.grown hg2 (by simp; omega)).keep hba)
  have HAB := Lib.hid (Blk.new w2 24 #[.int .i64 2, .int .i64 0, .slice none 0 0])
  replace HSW := Lib.hid (Nat.le_trans HSW.out hg2.size)
  have hag : w.heap.size < w2.heap.size := by have := HSW.out; omega
  replace HSW := Lib.hid (Nat.le_trans HSW.out hba.size)
  clear hp2 hg2 hba HWD HB0
  go_upto_region 12 with fail
  generalize w2.alloc (.cells #[.int .i64 2, .int .i64 0, .slice none 0 0] 24) = W3 at *
  generalize w2.heap.size = GA at *
  have a0 := HAB.out.cell (i := 0) (v := .int .i64 2) rfl
  have a1 := HAB.out.cell (i := 1) (v := .int .i64 0) rfl
  have af := HAB.out.frozen 1
  by_cases ht2 : tk l (p + 1) anyB = true
  · have HTY := Lib.hid (fun W (hb : Bel w0 W) (hps : Ps W g lv (p + 1) E) => take_yes l lv (p + 1) E g ⟨#[97, 110, 121]⟩ W (hl.keep hb) hn hps ht2)
    have HN : Hid (nP l 2 (p + 1) = .ok (-1) (p + 2)) := Lib.hid (by unfold nP; rw [if_pos (by decide), if_pos ht2])
    clear ht2
    go_upto_region 17 with fail
    clear a0 a1 af
    replace HAB := Lib.hid (HAB.out.set_ 1 (.int .i64 (-1)))
    replace HP := Lib.hid (HP.out.far_ (R := GA) (by omega) 1 (.int .i64 (-1)))
    replace HR0 := Lib.hid (HR0.out.far_ (R := GA) (by omega) 1 (.int .i64 (-1)))
    replace HG := Lib.hid (grownNew HG.out (R := GA) (by omega) 1 (.int .i64 (-1)))
    replace HSW : Hid (w.heap.size + 1 ≤ (W3.setCell ⟨GA, 1, none⟩ (.int .i64 (-1))).heap.size) := Lib.hid (by simpa using HSW.out)
    generalize W3.setCell ⟨GA, 1, none⟩ (.int .i64 (-1)) = W4 at *
    go_wp2_with fail
    refine (HTY.out _ (grownBel h0 hg HG.out) HP.out).mono ?_
    rintro r W5 ⟨rfl, hp5, hg5⟩
    replace HP := Lib.hid hp5
    replace HG := Lib.hid (HG.out.trans hg5)
    replace HR0 := Lib.hid (HR0.out.grown hg5 (by simp; omega))
    replace HAB := Lib.hid (HAB.out.grown hg5 (by simp; omega))
    replace HSW := Lib.hid (Nat.le_trans HSW.out hg5.size)
    clear hp5 hg5 HTY
    go_upto_region 24 with fail
    have b0 := HAB.out.cell (i := 0) (v := .int .i64 2) rfl
    have b1 := HAB.out.cell (i := 1) (v := .int .i64 (-1)) rfl
    have b2 := HAB.out.cell (i := 2) (v := .slice none 0 0) rfl
    have bf := HAB.out.frozen 2
    have r0 := HR0.out.cell (i := 0) (v := .int .i64 0) rfl
    have r1 := HR0.out.cell (i := 1) (v := .int .i64 0) rfl
    have r2 := HR0.out.cell (i := 2) (v := .slice none 0 0) rfl
    have f0 := HR0.out.frozen 0
    have f1 := HR0.out.frozen 1
    have f2 := HR0.out.frozen 2
    go_wp2_with fail
    refine (((args_any 2 _).mono (R' := fun r w' => r = .returned (.int .i64 0) ∧ w' = _) fun _ _ h => ⟨h.1.trans (by rfl), h.2.symm⟩)).mono ?_
    rintro r wX ⟨rfl, rfl⟩
    go_wp2
    have hz := three_set (a := .int .i64 2) (b := .int .i64 (-1)) (c := .slice none 0 0) HR0.out
    have z0 := hz.cell (i := 0) rfl
    have z1 := hz.cell (i := 1) rfl
    have z2 := hz.cell (i := 2) rfl
    refine bodyPost_ret (v := .agg #[.int .i64 2, .int .i64 (-1), .slice none 0 0]) (by simp [results, z0, z1, z2, go_sem]) rfl (.mkGood (k := 2) (n := (-1)) (args := []) (p := (p + 2)) (by rw [HN.out]; rfl) (grownNew (grownNew (grownNew HG.out (Nat.le_refl _) _ _) (Nat.le_refl _) _ _) (Nat.le_refl _) _ _) (Sl.nil_ _ _) (((HP.out.far_ (by omega) 0 _).far_ (by omega) 1 _).far_ (by omega) 2 _))
  have ht2 : tk l (p + 1) anyB = false := by simpa using ht2
  have HTN := Lib.hid (fun W (hb : Bel w0 W) (hps : Ps W g lv (p + 1) E) => take_no l lv (p + 1) E g ⟨#[97, 110, 121]⟩ W (hl.keep hb) hn hps ht2)
  have HNP : Hid (nP l 2 (p + 1) = kP l false (p + 1)) := Lib.hid (by unfold nP; rw [if_pos (by decide), if_neg (by rw [ht2]; decide)])
  clear ht2
  go_upto_region 17 with fail
  clear a0 a1 af
  replace HAB := Lib.hid (HAB.out.set_ 1 (.int .i64 (-1)))
  replace HP := Lib.hid (HP.out.far_ (R := GA) (by omega) 1 (.int .i64 (-1)))
  replace HR0 := Lib.hid (HR0.out.far_ (R := GA) (by omega) 1 (.int .i64 (-1)))
  replace HG := Lib.hid (grownNew HG.out (R := GA) (by omega) 1 (.int .i64 (-1)))
  replace HSW : Hid (w.heap.size + 1 ≤ (W3.setCell ⟨GA, 1, none⟩ (.int .i64 (-1))).heap.size) := Lib.hid (by simpa using HSW.out)
  generalize W3.setCell ⟨GA, 1, none⟩ (.int .i64 (-1)) = W4 at *
  go_wp2_with fail
  refine (HTN.out _ (grownBel h0 hg HG.out) HP.out).mono ?_
  rintro r W5 ⟨rfl, hb5⟩
  replace HP := Lib.hid (HP.out.keep hb5)
  have hg5 := hb5.grown (some g)
  replace HG := Lib.hid (HG.out.trans hg5)
  replace HR0 := Lib.hid (HR0.out.grown hg5 (by simp; omega))
  replace HAB := Lib.hid (HAB.out.grown hg5 (by simp; omega))
  replace HSW := Lib.hid (Nat.le_trans HSW.out hg5.size)
  clear hb5 hg5 HTN
  have HKC := Lib.hid (kF_any l lv (p + 1) E g w0 W5 hl hn hok (grownBel h0 hg HG.out) hg HP.out (by omega))
  have a1 := HAB.out.cell (i := 1) (v := .int .i64 (-1)) rfl
  go_wp2_with fail
  refine HKC.out.mono ?_
  rintro r W6 ⟨hg6, hres⟩
  have hn1 := kP_le (l := l) (m := false) (p := p + 1) (by omega)
  cases hk : kP l false (p + 1) with
  | fail x =>
    rw [hk] at hres
    obtain rfl : r = failV (place l E x) := hres
    have HN : Hid (nP l 2 (p + 1) = .fail x) := Lib.hid (by rw [HNP.out, hk])
    replace HG := Lib.hid (HG.out.trans hg6)
    clear hg6 hk hn1 HKC
    go_wp2
    exact ⟨rfl, .mkBad (by rw [HN.out]; rfl) HG.out⟩
  | ok n p1 =>
  rw [hk] at hres
  obtain ⟨rfl, hp6⟩ := hres
  have HN1 := Lib.hid (hn1.1 n p1 hk)
  have HN : Hid (nP l 2 (p + 1) = .ok n p1) := Lib.hid (by rw [HNP.out, hk])
  replace HP := Lib.hid hp6
  replace HG := Lib.hid (HG.out.trans hg6)
  replace HR0 := Lib.hid (HR0.out.grown hg6 (by simp; omega))
  replace HAB := Lib.hid (HAB.out.grown hg6 (by simp; omega))
  replace HSW := Lib.hid (Nat.le_trans HSW.out hg6.size)
  clear hp6 hg6 hk hn1 HKC a1
  have a1 := HAB.out.cell (i := 1) (v := .int .i64 (-1)) rfl
  have af := HAB.out.frozen 1
  go_upto_region 24 with fail
  clear a1 af
  replace HAB := Lib.hid (HAB.out.set_ 1 (.int .i64 n))
  replace HP := Lib.hid (HP.out.far_ (R := GA) (by omega) 1 (.int .i64 n))
  replace HR0 := Lib.hid (HR0.out.far_ (R := GA) (by omega) 1 (.int .i64 n))
  replace HG := Lib.hid (grownNew HG.out (R := GA) (by omega) 1 (.int .i64 n))
  replace HSW : Hid (w.heap.size + 1 ≤ (W6.setCell ⟨GA, 1, none⟩ (.int .i64 n)).heap.size) := Lib.hid (by simpa using HSW.out)
  generalize W6.setCell ⟨GA, 1, none⟩ (.int .i64 n) = W7 at *
  have b0 := HAB.out.cell (i := 0) (v := .int .i64 2) rfl
  have b1 := HAB.out.cell (i := 1) (v := .int .i64 n) rfl
  have b2 := HAB.out.cell (i := 2) (v := .slice none 0 0) rfl
  have bf := HAB.out.frozen 2
  have r0 := HR0.out.cell (i := 0) (v := .int .i64 0) rfl
  have r1 := HR0.out.cell (i := 1) (v := .int .i64 0) rfl
  have r2 := HR0.out.cell (i := 2) (v := .slice none 0 0) rfl
  have f0 := HR0.out.frozen 0
  have f1 := HR0.out.frozen 1
  have f2 := HR0.out.frozen 2
  go_wp2_with fail
  refine (((args_any 2 _).mono (R' := fun r w' => r = .returned (.int .i64 0) ∧ w' = _) fun _ _ h => ⟨h.1.trans (by rfl), h.2.symm⟩)).mono ?_
  rintro r wX ⟨rfl, rfl⟩
  go_wp2
  have hz := three_set (a := .int .i64 2) (b := .int .i64 n) (c := .slice none 0 0) HR0.out
  have z0 := hz.cell (i := 0) rfl
  have z1 := hz.cell (i := 1) rfl
  have z2 := hz.cell (i := 2) rfl
  refine bodyPost_ret (v := .agg #[.int .i64 2, .int .i64 n, .slice none 0 0]) (by simp [results, z0, z1, z2, go_sem]) rfl (.mkGood (k := 2) (n := n) (args := []) (p := p1) (by rw [HN.out]; rfl) (grownNew (grownNew (grownNew HG.out (Nat.le_refl _) _ _) (Nat.le_refl _) _ _) (Nat.le_refl _) _ _) (Sl.nil_ _ _) (((HP.out.far_ (by omega) 0 _).far_ (by omega) 1 _).far_ (by omega) 2 _))

set_option maxRecDepth 20000 in
set_option maxHeartbeats 1000000 in
theorem un3_non (l : List Tok) (lv : Value) (p E g : Nat) (D : Int) (rec : Option (Nat → PR Ask)) (w0 w : World) (hl : Sl tokR w0 lv l) (hn : l.length ≤ 6000) (hok : ∀ t ∈ l, TokOk t) (h0 : Bel w0 w) (hg : w0.heap.size ≤ g) (h : Ps w g lv p E) (ht : tk l p lparB = false) (hw : wordP l unK p = some 3)
    :
    Calls Tryd.prog 46 #[.pointer (some ⟨g, 0, none⟩), .int .i64 D] w fun r w' => AskRes w g lv l E (unFin 3 rec (nP l 3 (p + 1))) r w' := by
  have hp := tk_lt (wordP_some hw).2
  have hglt := h.lt
  have HT := Lib.hid (fun W (hb : Bel w W) => take_no l lv p E g ⟨#[40]⟩ W (hl.keep (h0.tr hb)) hn (h.keep hb) ht)
  have HP0 := Lib.hid h
  have HW := Lib.hid hw
  have HR0 := Lib.hid (Blk.new w 24 #[.int .i64 0, .int .i64 0, .slice none 0 0])
  have HB0 := Lib.hid ((Bel.rfl_ w).al (.cells #[.int .i64 0, .int .i64 0, .slice none 0 0] 24))
  have HSW : Hid (w.heap.size + 1 ≤ (w.alloc (.cells #[.int .i64 0, .int .i64 0, .slice none 0 0] 24)).heap.size) := Lib.hid (by simp)
  clear h ht hw
  go_enter Tryd.func46, Tryd.ntmps46
  go_upto_region 1 with fail
  generalize w.alloc (.cells #[.int .i64 0, .int .i64 0, .slice none 0 0] 24) = W0 at *
  go_wp2_with fail
  refine (HT.out _ HB0.out).mono ?_
  rintro r w1 ⟨rfl, hb1⟩
  have hb3 := (Bel.rfl_ w1).al (.cells #[.int .i64 1, .int .i64 2, .int .i64 3, .int .i64 4, .int .i64 5, .int .i64 6, .int .i64 7, .int .i64 10, .int .i64 11, .int .i64 12, .int .i64 14] 3)
  replace HB0 := Lib.hid ((HB0.out.tr hb1).tr hb3)
  replace HR0 := Lib.hid ((HR0.out.keep hb1).keep hb3)
  have HWD := Lib.hid (word_any l lv (.slice (some ⟨w1.heap.size, 0, none⟩) 11 11) unK p E g (w1.alloc (.cells #[.int .i64 1, .int .i64 2, .int .i64 3, .int .i64 4, .int .i64 5, .int .i64 6, .int .i64 7, .int .i64 10, .int .i64 11, .int .i64 12, .int .i64 14] 3)) (hl.keep (h0.tr HB0.out)) hn (HP0.out.keep HB0.out) (ints_blk (xs := [1, 2, 3, 4, 5, 6, 7, 10, 11, 12, 14]) (Blk.new w1 3 _) rfl (by decide)) (by decide) (by decide))
  replace HSW := Lib.hid (Nat.le_trans HSW.out (Nat.le_trans hb1.size hb3.size))
  clear hb1 hb3 HT HP0
  go_wp2_with fail
  refine HWD.out.mono ?_
  rintro r w2 hres
  rw [HW.out] at hres
  obtain ⟨hr2, hp2, hg2⟩ := hres
  obtain rfl : r = .returned (.int .i64 3) := hr2
  have hba := (Bel.rfl_ w2).al (.cells #[.int .i64 3, .int .i64 0, .slice none 0 0] 24)
  have HP := Lib.hid (hp2.keep hba)
  have HG := Lib.hid (((HB0.out.grown (some g)).trans hg2).trans (hba.grown (some g)))
  replace HR0 := Lib.hid ((HR0.out.grown hg2 (by simp; omega)).keep hba)
  have HAB := Lib.hid (Blk.new w2 24 #[.int .i64 3, .int .i64 0, .slice none 0 0])
  replace HSW := Lib.hid (Nat.le_trans HSW.out hg2.size)
  have hag : w.heap.size < w2.heap.size := by have := HSW.out; omega
  replace HSW := Lib.hid (Nat.le_trans HSW.out hba.size)
  clear hp2 hg2 hba HWD HB0
  go_upto_region 12 with fail
  generalize w2.alloc (.cells #[.int .i64 3, .int .i64 0, .slice none 0 0] 24) = W3 at *
  generalize w2.heap.size = GA at *
  have a0 := HAB.out.cell (i := 0) (v := .int .i64 3) rfl
  have a1 := HAB.out.cell (i := 1) (v := .int .i64 0) rfl
  have af := HAB.out.frozen 1
  by_cases ht2 : tk l (p + 1) anyB = true
  · have HTY := Lib.hid (fun W (hb : Bel w0 W) (hps : Ps W g lv (p + 1) E) => take_yes l lv (p + 1) E g ⟨#[97, 110, 121]⟩ W (hl.keep hb) hn hps ht2)
    have HN : Hid (nP l 3 (p + 1) = .ok (-1) (p + 2)) := Lib.hid (by unfold nP; rw [if_pos (by decide), if_pos ht2])
    clear ht2
    go_upto_region 17 with fail
    clear a0 a1 af
    replace HAB := Lib.hid (HAB.out.set_ 1 (.int .i64 (-1)))
    replace HP := Lib.hid (HP.out.far_ (R := GA) (by omega) 1 (.int .i64 (-1)))
    replace HR0 := Lib.hid (HR0.out.far_ (R := GA) (by omega) 1 (.int .i64 (-1)))
    replace HG := Lib.hid (grownNew HG.out (R := GA) (by omega) 1 (.int .i64 (-1)))
    replace HSW : Hid (w.heap.size + 1 ≤ (W3.setCell ⟨GA, 1, none⟩ (.int .i64 (-1))).heap.size) := Lib.hid (by simpa using HSW.out)
    generalize W3.setCell ⟨GA, 1, none⟩ (.int .i64 (-1)) = W4 at *
    go_wp2_with fail
    refine (HTY.out _ (grownBel h0 hg HG.out) HP.out).mono ?_
    rintro r W5 ⟨rfl, hp5, hg5⟩
    replace HP := Lib.hid hp5
    replace HG := Lib.hid (HG.out.trans hg5)
    replace HR0 := Lib.hid (HR0.out.grown hg5 (by simp; omega))
    replace HAB := Lib.hid (HAB.out.grown hg5 (by simp; omega))
    replace HSW := Lib.hid (Nat.le_trans HSW.out hg5.size)
    clear hp5 hg5 HTY
    go_upto_region 24 with fail
    have b0 := HAB.out.cell (i := 0) (v := .int .i64 3) rfl
    have b1 := HAB.out.cell (i := 1) (v := .int .i64 (-1)) rfl
    have b2 := HAB.out.cell (i := 2) (v := .slice none 0 0) rfl
    have bf := HAB.out.frozen 2
    have r0 := HR0.out.cell (i := 0) (v := .int .i64 0) rfl
    have r1 := HR0.out.cell (i := 1) (v := .int .i64 0) rfl
    have r2 := HR0.out.cell (i := 2) (v := .slice none 0 0) rfl
    have f0 := HR0.out.frozen 0
    have f1 := HR0.out.frozen 1
    have f2 := HR0.out.frozen 2
    go_wp2_with fail
    refine (((args_any 3 _).mono (R' := fun r w' => r = .returned (.int .i64 0) ∧ w' = _) fun _ _ h => ⟨h.1.trans (by rfl), h.2.symm⟩)).mono ?_
    rintro r wX ⟨rfl, rfl⟩
    go_wp2
    have hz := three_set (a := .int .i64 3) (b := .int .i64 (-1)) (c := .slice none 0 0) HR0.out
    have z0 := hz.cell (i := 0) rfl
    have z1 := hz.cell (i := 1) rfl
    have z2 := hz.cell (i := 2) rfl
    refine bodyPost_ret (v := .agg #[.int .i64 3, .int .i64 (-1), .slice none 0 0]) (by simp [results, z0, z1, z2, go_sem]) rfl (.mkGood (k := 3) (n := (-1)) (args := []) (p := (p + 2)) (by rw [HN.out]; rfl) (grownNew (grownNew (grownNew HG.out (Nat.le_refl _) _ _) (Nat.le_refl _) _ _) (Nat.le_refl _) _ _) (Sl.nil_ _ _) (((HP.out.far_ (by omega) 0 _).far_ (by omega) 1 _).far_ (by omega) 2 _))
  have ht2 : tk l (p + 1) anyB = false := by simpa using ht2
  have HTN := Lib.hid (fun W (hb : Bel w0 W) (hps : Ps W g lv (p + 1) E) => take_no l lv (p + 1) E g ⟨#[97, 110, 121]⟩ W (hl.keep hb) hn hps ht2)
  have HNP : Hid (nP l 3 (p + 1) = kP l false (p + 1)) := Lib.hid (by unfold nP; rw [if_pos (by decide), if_neg (by rw [ht2]; decide)])
  clear ht2
  go_upto_region 17 with fail
  clear a0 a1 af
  replace HAB := Lib.hid (HAB.out.set_ 1 (.int .i64 (-1)))
  replace HP := Lib.hid (HP.out.far_ (R := GA) (by omega) 1 (.int .i64 (-1)))
  replace HR0 := Lib.hid (HR0.out.far_ (R := GA) (by omega) 1 (.int .i64 (-1)))
  replace HG := Lib.hid (grownNew HG.out (R := GA) (by omega) 1 (.int .i64 (-1)))
  replace HSW : Hid (w.heap.size + 1 ≤ (W3.setCell ⟨GA, 1, none⟩ (.int .i64 (-1))).heap.size) := Lib.hid (by simpa using HSW.out)
  generalize W3.setCell ⟨GA, 1, none⟩ (.int .i64 (-1)) = W4 at *
  go_wp2_with fail
  refine (HTN.out _ (grownBel h0 hg HG.out) HP.out).mono ?_
  rintro r W5 ⟨rfl, hb5⟩
  replace HP := Lib.hid (HP.out.keep hb5)
  have hg5 := hb5.grown (some g)
  replace HG := Lib.hid (HG.out.trans hg5)
  replace HR0 := Lib.hid (HR0.out.grown hg5 (by simp; omega))
  replace HAB := Lib.hid (HAB.out.grown hg5 (by simp; omega))
  replace HSW := Lib.hid (Nat.le_trans HSW.out hg5.size)
  clear hb5 hg5 HTN
  have HKC := Lib.hid (kF_any l lv (p + 1) E g w0 W5 hl hn hok (grownBel h0 hg HG.out) hg HP.out (by omega))
  have a1 := HAB.out.cell (i := 1) (v := .int .i64 (-1)) rfl
  go_wp2_with fail
  refine HKC.out.mono ?_
  rintro r W6 ⟨hg6, hres⟩
  have hn1 := kP_le (l := l) (m := false) (p := p + 1) (by omega)
  cases hk : kP l false (p + 1) with
  | fail x =>
    rw [hk] at hres
    obtain rfl : r = failV (place l E x) := hres
    have HN : Hid (nP l 3 (p + 1) = .fail x) := Lib.hid (by rw [HNP.out, hk])
    replace HG := Lib.hid (HG.out.trans hg6)
    clear hg6 hk hn1 HKC
    go_wp2
    exact ⟨rfl, .mkBad (by rw [HN.out]; rfl) HG.out⟩
  | ok n p1 =>
  rw [hk] at hres
  obtain ⟨rfl, hp6⟩ := hres
  have HN1 := Lib.hid (hn1.1 n p1 hk)
  have HN : Hid (nP l 3 (p + 1) = .ok n p1) := Lib.hid (by rw [HNP.out, hk])
  replace HP := Lib.hid hp6
  replace HG := Lib.hid (HG.out.trans hg6)
  replace HR0 := Lib.hid (HR0.out.grown hg6 (by simp; omega))
  replace HAB := Lib.hid (HAB.out.grown hg6 (by simp; omega))
  replace HSW := Lib.hid (Nat.le_trans HSW.out hg6.size)
  clear hp6 hg6 hk hn1 HKC a1
  have a1 := HAB.out.cell (i := 1) (v := .int .i64 (-1)) rfl
  have af := HAB.out.frozen 1
  go_upto_region 24 with fail
  clear a1 af
  replace HAB := Lib.hid (HAB.out.set_ 1 (.int .i64 n))
  replace HP := Lib.hid (HP.out.far_ (R := GA) (by omega) 1 (.int .i64 n))
  replace HR0 := Lib.hid (HR0.out.far_ (R := GA) (by omega) 1 (.int .i64 n))
  replace HG := Lib.hid (grownNew HG.out (R := GA) (by omega) 1 (.int .i64 n))
  replace HSW : Hid (w.heap.size + 1 ≤ (W6.setCell ⟨GA, 1, none⟩ (.int .i64 n)).heap.size) := Lib.hid (by simpa using HSW.out)
  generalize W6.setCell ⟨GA, 1, none⟩ (.int .i64 n) = W7 at *
  have b0 := HAB.out.cell (i := 0) (v := .int .i64 3) rfl
  have b1 := HAB.out.cell (i := 1) (v := .int .i64 n) rfl
  have b2 := HAB.out.cell (i := 2) (v := .slice none 0 0) rfl
  have bf := HAB.out.frozen 2
  have r0 := HR0.out.cell (i := 0) (v := .int .i64 0) rfl
  have r1 := HR0.out.cell (i := 1) (v := .int .i64 0) rfl
  have r2 := HR0.out.cell (i := 2) (v := .slice none 0 0) rfl
  have f0 := HR0.out.frozen 0
  have f1 := HR0.out.frozen 1
  have f2 := HR0.out.frozen 2
  go_wp2_with fail
  refine (((args_any 3 _).mono (R' := fun r w' => r = .returned (.int .i64 0) ∧ w' = _) fun _ _ h => ⟨h.1.trans (by rfl), h.2.symm⟩)).mono ?_
  rintro r wX ⟨rfl, rfl⟩
  go_wp2
  have hz := three_set (a := .int .i64 3) (b := .int .i64 n) (c := .slice none 0 0) HR0.out
  have z0 := hz.cell (i := 0) rfl
  have z1 := hz.cell (i := 1) rfl
  have z2 := hz.cell (i := 2) rfl
  refine bodyPost_ret (v := .agg #[.int .i64 3, .int .i64 n, .slice none 0 0]) (by simp [results, z0, z1, z2, go_sem]) rfl (.mkGood (k := 3) (n := n) (args := []) (p := p1) (by rw [HN.out]; rfl) (grownNew (grownNew (grownNew HG.out (Nat.le_refl _) _ _) (Nat.le_refl _) _ _) (Nat.le_refl _) _ _) (Sl.nil_ _ _) (((HP.out.far_ (by omega) 0 _).far_ (by omega) 1 _).far_ (by omega) 2 _))

set_option maxRecDepth 20000 in
set_option maxHeartbeats 1000000 in
theorem un4_non (l : List Tok) (lv : Value) (p E g : Nat) (D : Int) (rec : Option (Nat → PR Ask)) (w0 w : World) (hl : Sl tokR w0 lv l) (hn : l.length ≤ 6000) (_hok : ∀ t ∈ l, TokOk t) (h0 : Bel w0 w) (_hg : w0.heap.size ≤ g) (h : Ps w g lv p E) (ht : tk l p lparB = false) (hw : wordP l unK p = some 4)
    :
    Calls Tryd.prog 46 #[.pointer (some ⟨g, 0, none⟩), .int .i64 D] w fun r w' => AskRes w g lv l E (unFin 4 rec (nP l 4 (p + 1))) r w' := by
  have hp := tk_lt (wordP_some hw).2
  have hglt := h.lt
  have HT := Lib.hid (fun W (hb : Bel w W) => take_no l lv p E g ⟨#[40]⟩ W (hl.keep (h0.tr hb)) hn (h.keep hb) ht)
  have HP0 := Lib.hid h
  have HW := Lib.hid hw
  have HR0 := Lib.hid (Blk.new w 24 #[.int .i64 0, .int .i64 0, .slice none 0 0])
  have HB0 := Lib.hid ((Bel.rfl_ w).al (.cells #[.int .i64 0, .int .i64 0, .slice none 0 0] 24))
  have HSW : Hid (w.heap.size + 1 ≤ (w.alloc (.cells #[.int .i64 0, .int .i64 0, .slice none 0 0] 24)).heap.size) := Lib.hid (by simp)
  clear h ht hw
  go_enter Tryd.func46, Tryd.ntmps46
  go_upto_region 1 with fail
  generalize w.alloc (.cells #[.int .i64 0, .int .i64 0, .slice none 0 0] 24) = W0 at *
  go_wp2_with fail
  refine (HT.out _ HB0.out).mono ?_
  rintro r w1 ⟨rfl, hb1⟩
  have hb3 := (Bel.rfl_ w1).al (.cells #[.int .i64 1, .int .i64 2, .int .i64 3, .int .i64 4, .int .i64 5, .int .i64 6, .int .i64 7, .int .i64 10, .int .i64 11, .int .i64 12, .int .i64 14] 3)
  replace HB0 := Lib.hid ((HB0.out.tr hb1).tr hb3)
  replace HR0 := Lib.hid ((HR0.out.keep hb1).keep hb3)
  have HWD := Lib.hid (word_any l lv (.slice (some ⟨w1.heap.size, 0, none⟩) 11 11) unK p E g (w1.alloc (.cells #[.int .i64 1, .int .i64 2, .int .i64 3, .int .i64 4, .int .i64 5, .int .i64 6, .int .i64 7, .int .i64 10, .int .i64 11, .int .i64 12, .int .i64 14] 3)) (hl.keep (h0.tr HB0.out)) hn (HP0.out.keep HB0.out) (ints_blk (xs := [1, 2, 3, 4, 5, 6, 7, 10, 11, 12, 14]) (Blk.new w1 3 _) rfl (by decide)) (by decide) (by decide))
  replace HSW := Lib.hid (Nat.le_trans HSW.out (Nat.le_trans hb1.size hb3.size))
  clear hb1 hb3 HT HP0
  go_wp2_with fail
  refine HWD.out.mono ?_
  rintro r w2 hres
  rw [HW.out] at hres
  obtain ⟨hr2, hp2, hg2⟩ := hres
  obtain rfl : r = .returned (.int .i64 4) := hr2
  have hba := (Bel.rfl_ w2).al (.cells #[.int .i64 4, .int .i64 0, .slice none 0 0] 24)
  have HP := Lib.hid (hp2.keep hba)
  have HG := Lib.hid (((HB0.out.grown (some g)).trans hg2).trans (hba.grown (some g)))
  replace HR0 := Lib.hid ((HR0.out.grown hg2 (by simp; omega)).keep hba)
  have HAB := Lib.hid (Blk.new w2 24 #[.int .i64 4, .int .i64 0, .slice none 0 0])
  replace HSW := Lib.hid (Nat.le_trans HSW.out hg2.size)
  have hag : w.heap.size < w2.heap.size := by have := HSW.out; omega
  replace HSW := Lib.hid (Nat.le_trans HSW.out hba.size)
  clear hp2 hg2 hba HWD HB0
  go_upto_region 12 with fail
  generalize w2.alloc (.cells #[.int .i64 4, .int .i64 0, .slice none 0 0] 24) = W3 at *
  generalize w2.heap.size = GA at *
  have a0 := HAB.out.cell (i := 0) (v := .int .i64 4) rfl
  have a1 := HAB.out.cell (i := 1) (v := .int .i64 0) rfl
  have af := HAB.out.frozen 1
  have HN : Hid (nP l 4 (p + 1) = .ok 0 (p + 1)) := Lib.hid (by unfold nP; rw [if_neg (by decide), if_neg (by decide), if_neg (by decide)])
  go_upto_region 24 with fail
  clear a0 a1 af
  have b0 := HAB.out.cell (i := 0) (v := .int .i64 4) rfl
  have b1 := HAB.out.cell (i := 1) (v := .int .i64 0) rfl
  have b2 := HAB.out.cell (i := 2) (v := .slice none 0 0) rfl
  have bf := HAB.out.frozen 2
  have r0 := HR0.out.cell (i := 0) (v := .int .i64 0) rfl
  have r1 := HR0.out.cell (i := 1) (v := .int .i64 0) rfl
  have r2 := HR0.out.cell (i := 2) (v := .slice none 0 0) rfl
  have f0 := HR0.out.frozen 0
  have f1 := HR0.out.frozen 1
  have f2 := HR0.out.frozen 2
  go_wp2_with fail
  refine (((args_any 4 _).mono (R' := fun r w' => r = .returned (.int .i64 0) ∧ w' = _) fun _ _ h => ⟨h.1.trans (by rfl), h.2.symm⟩)).mono ?_
  rintro r wX ⟨rfl, rfl⟩
  go_wp2
  have hz := three_set (a := .int .i64 4) (b := .int .i64 0) (c := .slice none 0 0) HR0.out
  have z0 := hz.cell (i := 0) rfl
  have z1 := hz.cell (i := 1) rfl
  have z2 := hz.cell (i := 2) rfl
  refine bodyPost_ret (v := .agg #[.int .i64 4, .int .i64 0, .slice none 0 0]) (by simp [results, z0, z1, z2, go_sem]) rfl (.mkGood (k := 4) (n := 0) (args := []) (p := (p + 1)) (by rw [HN.out]; rfl) (grownNew (grownNew (grownNew HG.out (Nat.le_refl _) _ _) (Nat.le_refl _) _ _) (Nat.le_refl _) _ _) (Sl.nil_ _ _) (((HP.out.far_ (by omega) 0 _).far_ (by omega) 1 _).far_ (by omega) 2 _))

set_option maxRecDepth 20000 in
set_option maxHeartbeats 1000000 in
theorem un5_non (l : List Tok) (lv : Value) (p E g : Nat) (D : Int) (rec : Option (Nat → PR Ask)) (w0 w : World) (hl : Sl tokR w0 lv l) (hn : l.length ≤ 6000) (hok : ∀ t ∈ l, TokOk t) (h0 : Bel w0 w) (hg : w0.heap.size ≤ g) (h : Ps w g lv p E) (ht : tk l p lparB = false) (hw : wordP l unK p = some 5)
    :
    Calls Tryd.prog 46 #[.pointer (some ⟨g, 0, none⟩), .int .i64 D] w fun r w' => AskRes w g lv l E (unFin 5 rec (nP l 5 (p + 1))) r w' := by
  have hp := tk_lt (wordP_some hw).2
  have hglt := h.lt
  have HT := Lib.hid (fun W (hb : Bel w W) => take_no l lv p E g ⟨#[40]⟩ W (hl.keep (h0.tr hb)) hn (h.keep hb) ht)
  have HP0 := Lib.hid h
  have HW := Lib.hid hw
  have HR0 := Lib.hid (Blk.new w 24 #[.int .i64 0, .int .i64 0, .slice none 0 0])
  have HB0 := Lib.hid ((Bel.rfl_ w).al (.cells #[.int .i64 0, .int .i64 0, .slice none 0 0] 24))
  have HSW : Hid (w.heap.size + 1 ≤ (w.alloc (.cells #[.int .i64 0, .int .i64 0, .slice none 0 0] 24)).heap.size) := Lib.hid (by simp)
  clear h ht hw
  go_enter Tryd.func46, Tryd.ntmps46
  go_upto_region 1 with fail
  generalize w.alloc (.cells #[.int .i64 0, .int .i64 0, .slice none 0 0] 24) = W0 at *
  go_wp2_with fail
  refine (HT.out _ HB0.out).mono ?_
  rintro r w1 ⟨rfl, hb1⟩
  have hb3 := (Bel.rfl_ w1).al (.cells #[.int .i64 1, .int .i64 2, .int .i64 3, .int .i64 4, .int .i64 5, .int .i64 6, .int .i64 7, .int .i64 10, .int .i64 11, .int .i64 12, .int .i64 14] 3)
  replace HB0 := Lib.hid ((HB0.out.tr hb1).tr hb3)
  replace HR0 := Lib.hid ((HR0.out.keep hb1).keep hb3)
  have HWD := Lib.hid (word_any l lv (.slice (some ⟨w1.heap.size, 0, none⟩) 11 11) unK p E g (w1.alloc (.cells #[.int .i64 1, .int .i64 2, .int .i64 3, .int .i64 4, .int .i64 5, .int .i64 6, .int .i64 7, .int .i64 10, .int .i64 11, .int .i64 12, .int .i64 14] 3)) (hl.keep (h0.tr HB0.out)) hn (HP0.out.keep HB0.out) (ints_blk (xs := [1, 2, 3, 4, 5, 6, 7, 10, 11, 12, 14]) (Blk.new w1 3 _) rfl (by decide)) (by decide) (by decide))
  replace HSW := Lib.hid (Nat.le_trans HSW.out (Nat.le_trans hb1.size hb3.size))
  clear hb1 hb3 HT HP0
  go_wp2_with fail
  refine HWD.out.mono ?_
  rintro r w2 hres
  rw [HW.out] at hres
  obtain ⟨hr2, hp2, hg2⟩ := hres
  obtain rfl : r = .returned (.int .i64 5) := hr2
  have hba := (Bel.rfl_ w2).al (.cells #[.int .i64 5, .int .i64 0, .slice none 0 0] 24)
  have HP := Lib.hid (hp2.keep hba)
  have HG := Lib.hid (((HB0.out.grown (some g)).trans hg2).trans (hba.grown (some g)))
  replace HR0 := Lib.hid ((HR0.out.grown hg2 (by simp; omega)).keep hba)
  have HAB := Lib.hid (Blk.new w2 24 #[.int .i64 5, .int .i64 0, .slice none 0 0])
  replace HSW := Lib.hid (Nat.le_trans HSW.out hg2.size)
  have hag : w.heap.size < w2.heap.size := by have := HSW.out; omega
  replace HSW := Lib.hid (Nat.le_trans HSW.out hba.size)
  clear hp2 hg2 hba HWD HB0
  go_upto_region 12 with fail
  generalize w2.alloc (.cells #[.int .i64 5, .int .i64 0, .slice none 0 0] 24) = W3 at *
  generalize w2.heap.size = GA at *
  have a0 := HAB.out.cell (i := 0) (v := .int .i64 5) rfl
  have a1 := HAB.out.cell (i := 1) (v := .int .i64 0) rfl
  have af := HAB.out.frozen 1
  have HNP : Hid (nP l 5 (p + 1) = kP l true (p + 1)) := Lib.hid (by unfold nP; rw [if_neg (by decide)]; first | rw [if_pos (by decide)] | rw [if_neg (by decide), if_pos (by decide)])
  have HKC := Lib.hid (k1_any l lv (p + 1) E g w0 W3 hl hn hok (grownBel h0 hg HG.out) hg HP.out (by omega))
  go_wp2_with fail
  refine HKC.out.mono ?_
  rintro r W6 ⟨hg6, hres⟩
  have hn1 := kP_le (l := l) (m := true) (p := p + 1) (by omega)
  cases hk : kP l true (p + 1) with
  | fail x =>
    rw [hk] at hres
    obtain rfl : r = failV (place l E x) := hres
    have HN : Hid (nP l 5 (p + 1) = .fail x) := Lib.hid (by rw [HNP.out, hk])
    replace HG := Lib.hid (HG.out.trans hg6)
    clear hg6 hk hn1 HKC
    go_wp2
    exact ⟨rfl, .mkBad (by rw [HN.out]; rfl) HG.out⟩
  | ok n p1 =>
  rw [hk] at hres
  obtain ⟨rfl, hp6⟩ := hres
  have HN1 := Lib.hid (hn1.1 n p1 hk)
  have HN : Hid (nP l 5 (p + 1) = .ok n p1) := Lib.hid (by rw [HNP.out, hk])
  replace HP := Lib.hid hp6
  replace HG := Lib.hid (HG.out.trans hg6)
  replace HR0 := Lib.hid (HR0.out.grown hg6 (by simp; omega))
  replace HAB := Lib.hid (HAB.out.grown hg6 (by simp; omega))
  replace HSW := Lib.hid (Nat.le_trans HSW.out hg6.size)
  clear hp6 hg6 hk hn1 HKC a0 a1 af
  have a1 := HAB.out.cell (i := 1) (v := .int .i64 0) rfl
  have af := HAB.out.frozen 1
  go_upto_region 24 with fail
  clear a1 af
  replace HAB := Lib.hid (HAB.out.set_ 1 (.int .i64 n))
  replace HP := Lib.hid (HP.out.far_ (R := GA) (by omega) 1 (.int .i64 n))
  replace HR0 := Lib.hid (HR0.out.far_ (R := GA) (by omega) 1 (.int .i64 n))
  replace HG := Lib.hid (grownNew HG.out (R := GA) (by omega) 1 (.int .i64 n))
  replace HSW : Hid (w.heap.size + 1 ≤ (W6.setCell ⟨GA, 1, none⟩ (.int .i64 n)).heap.size) := Lib.hid (by simpa using HSW.out)
  generalize W6.setCell ⟨GA, 1, none⟩ (.int .i64 n) = W7 at *
  have b0 := HAB.out.cell (i := 0) (v := .int .i64 5) rfl
  have b1 := HAB.out.cell (i := 1) (v := .int .i64 n) rfl
  have b2 := HAB.out.cell (i := 2) (v := .slice none 0 0) rfl
  have bf := HAB.out.frozen 2
  have r0 := HR0.out.cell (i := 0) (v := .int .i64 0) rfl
  have r1 := HR0.out.cell (i := 1) (v := .int .i64 0) rfl
  have r2 := HR0.out.cell (i := 2) (v := .slice none 0 0) rfl
  have f0 := HR0.out.frozen 0
  have f1 := HR0.out.frozen 1
  have f2 := HR0.out.frozen 2
  go_wp2_with fail
  refine (((args_any 5 _).mono (R' := fun r w' => r = .returned (.int .i64 0) ∧ w' = _) fun _ _ h => ⟨h.1.trans (by rfl), h.2.symm⟩)).mono ?_
  rintro r wX ⟨rfl, rfl⟩
  go_wp2
  have hz := three_set (a := .int .i64 5) (b := .int .i64 n) (c := .slice none 0 0) HR0.out
  have z0 := hz.cell (i := 0) rfl
  have z1 := hz.cell (i := 1) rfl
  have z2 := hz.cell (i := 2) rfl
  refine bodyPost_ret (v := .agg #[.int .i64 5, .int .i64 n, .slice none 0 0]) (by simp [results, z0, z1, z2, go_sem]) rfl (.mkGood (k := 5) (n := n) (args := []) (p := p1) (by rw [HN.out]; rfl) (grownNew (grownNew (grownNew HG.out (Nat.le_refl _) _ _) (Nat.le_refl _) _ _) (Nat.le_refl _) _ _) (Sl.nil_ _ _) (((HP.out.far_ (by omega) 0 _).far_ (by omega) 1 _).far_ (by omega) 2 _))

set_option maxRecDepth 20000 in
set_option maxHeartbeats 1000000 in
theorem un6_non (l : List Tok) (lv : Value) (p E g : Nat) (D : Int) (rec : Option (Nat → PR Ask)) (w0 w : World) (hl : Sl tokR w0 lv l) (hn : l.length ≤ 6000) (hok : ∀ t ∈ l, TokOk t) (h0 : Bel w0 w) (hg : w0.heap.size ≤ g) (h : Ps w g lv p E) (ht : tk l p lparB = false) (hw : wordP l unK p = some 6)
    :
    Calls Tryd.prog 46 #[.pointer (some ⟨g, 0, none⟩), .int .i64 D] w fun r w' => AskRes w g lv l E (unFin 6 rec (nP l 6 (p + 1))) r w' := by
  have hp := tk_lt (wordP_some hw).2
  have hglt := h.lt
  have HT := Lib.hid (fun W (hb : Bel w W) => take_no l lv p E g ⟨#[40]⟩ W (hl.keep (h0.tr hb)) hn (h.keep hb) ht)
  have HP0 := Lib.hid h
  have HW := Lib.hid hw
  have HR0 := Lib.hid (Blk.new w 24 #[.int .i64 0, .int .i64 0, .slice none 0 0])
  have HB0 := Lib.hid ((Bel.rfl_ w).al (.cells #[.int .i64 0, .int .i64 0, .slice none 0 0] 24))
  have HSW : Hid (w.heap.size + 1 ≤ (w.alloc (.cells #[.int .i64 0, .int .i64 0, .slice none 0 0] 24)).heap.size) := Lib.hid (by simp)
  clear h ht hw
  go_enter Tryd.func46, Tryd.ntmps46
  go_upto_region 1 with fail
  generalize w.alloc (.cells #[.int .i64 0, .int .i64 0, .slice none 0 0] 24) = W0 at *
  go_wp2_with fail
  refine (HT.out _ HB0.out).mono ?_
  rintro r w1 ⟨rfl, hb1⟩
  have hb3 := (Bel.rfl_ w1).al (.cells #[.int .i64 1, .int .i64 2, .int .i64 3, .int .i64 4, .int .i64 5, .int .i64 6, .int .i64 7, .int .i64 10, .int .i64 11, .int .i64 12, .int .i64 14] 3)
  replace HB0 := Lib.hid ((HB0.out.tr hb1).tr hb3)
  replace HR0 := Lib.hid ((HR0.out.keep hb1).keep hb3)
  have HWD := Lib.hid (word_any l lv (.slice (some ⟨w1.heap.size, 0, none⟩) 11 11) unK p E g (w1.alloc (.cells #[.int .i64 1, .int .i64 2, .int .i64 3, .int .i64 4, .int .i64 5, .int .i64 6, .int .i64 7, .int .i64 10, .int .i64 11, .int .i64 12, .int .i64 14] 3)) (hl.keep (h0.tr HB0.out)) hn (HP0.out.keep HB0.out) (ints_blk (xs := [1, 2, 3, 4, 5, 6, 7, 10, 11, 12, 14]) (Blk.new w1 3 _) rfl (by decide)) (by decide) (by decide))
  replace HSW := Lib.hid (Nat.le_trans HSW.out (Nat.le_trans hb1.size hb3.size))
  clear hb1 hb3 HT HP0
  go_wp2_with fail
  refine HWD.out.mono ?_
  rintro r w2 hres
  rw [HW.out] at hres
  obtain ⟨hr2, hp2, hg2⟩ := hres
  obtain rfl : r = .returned (.int .i64 6) := hr2
  have hba := (Bel.rfl_ w2).al (.cells #[.int .i64 6, .int .i64 0, .slice none 0 0] 24)
  have HP := Lib.hid (hp2.keep hba)
  have HG := Lib.hid (((HB0.out.grown (some g)).trans hg2).trans (hba.grown (some g)))
  replace HR0 := Lib.hid ((HR0.out.grown hg2 (by simp; omega)).keep hba)
  have HAB := Lib.hid (Blk.new w2 24 #[.int .i64 6, .int .i64 0, .slice none 0 0])
  replace HSW := Lib.hid (Nat.le_trans HSW.out hg2.size)
  have hag : w.heap.size < w2.heap.size := by have := HSW.out; omega
  replace HSW := Lib.hid (Nat.le_trans HSW.out hba.size)
  clear hp2 hg2 hba HWD HB0
  go_upto_region 12 with fail
  generalize w2.alloc (.cells #[.int .i64 6, .int .i64 0, .slice none 0 0] 24) = W3 at *
  generalize w2.heap.size = GA at *
  have a0 := HAB.out.cell (i := 0) (v := .int .i64 6) rfl
  have a1 := HAB.out.cell (i := 1) (v := .int .i64 0) rfl
  have af := HAB.out.frozen 1
  have HNP : Hid (nP l 6 (p + 1) = kP l true (p + 1)) := Lib.hid (by unfold nP; rw [if_neg (by decide)]; first | rw [if_pos (by decide)] | rw [if_neg (by decide), if_pos (by decide)])
  have HKC := Lib.hid (k1_any l lv (p + 1) E g w0 W3 hl hn hok (grownBel h0 hg HG.out) hg HP.out (by omega))
  go_wp2_with fail
  refine HKC.out.mono ?_
  rintro r W6 ⟨hg6, hres⟩
  have hn1 := kP_le (l := l) (m := true) (p := p + 1) (by omega)
  cases hk : kP l true (p + 1) with
  | fail x =>
    rw [hk] at hres
    obtain rfl : r = failV (place l E x) := hres
    have HN : Hid (nP l 6 (p + 1) = .fail x) := Lib.hid (by rw [HNP.out, hk])
    replace HG := Lib.hid (HG.out.trans hg6)
    clear hg6 hk hn1 HKC
    go_wp2
    exact ⟨rfl, .mkBad (by rw [HN.out]; rfl) HG.out⟩
  | ok n p1 =>
  rw [hk] at hres
  obtain ⟨rfl, hp6⟩ := hres
  have HN1 := Lib.hid (hn1.1 n p1 hk)
  have HN : Hid (nP l 6 (p + 1) = .ok n p1) := Lib.hid (by rw [HNP.out, hk])
  replace HP := Lib.hid hp6
  replace HG := Lib.hid (HG.out.trans hg6)
  replace HR0 := Lib.hid (HR0.out.grown hg6 (by simp; omega))
  replace HAB := Lib.hid (HAB.out.grown hg6 (by simp; omega))
  replace HSW := Lib.hid (Nat.le_trans HSW.out hg6.size)
  clear hp6 hg6 hk hn1 HKC a0 a1 af
  have a1 := HAB.out.cell (i := 1) (v := .int .i64 0) rfl
  have af := HAB.out.frozen 1
  go_upto_region 24 with fail
  clear a1 af
  replace HAB := Lib.hid (HAB.out.set_ 1 (.int .i64 n))
  replace HP := Lib.hid (HP.out.far_ (R := GA) (by omega) 1 (.int .i64 n))
  replace HR0 := Lib.hid (HR0.out.far_ (R := GA) (by omega) 1 (.int .i64 n))
  replace HG := Lib.hid (grownNew HG.out (R := GA) (by omega) 1 (.int .i64 n))
  replace HSW : Hid (w.heap.size + 1 ≤ (W6.setCell ⟨GA, 1, none⟩ (.int .i64 n)).heap.size) := Lib.hid (by simpa using HSW.out)
  generalize W6.setCell ⟨GA, 1, none⟩ (.int .i64 n) = W7 at *
  have b0 := HAB.out.cell (i := 0) (v := .int .i64 6) rfl
  have b1 := HAB.out.cell (i := 1) (v := .int .i64 n) rfl
  have b2 := HAB.out.cell (i := 2) (v := .slice none 0 0) rfl
  have bf := HAB.out.frozen 2
  have r0 := HR0.out.cell (i := 0) (v := .int .i64 0) rfl
  have r1 := HR0.out.cell (i := 1) (v := .int .i64 0) rfl
  have r2 := HR0.out.cell (i := 2) (v := .slice none 0 0) rfl
  have f0 := HR0.out.frozen 0
  have f1 := HR0.out.frozen 1
  have f2 := HR0.out.frozen 2
  go_wp2_with fail
  refine (((args_any 6 _).mono (R' := fun r w' => r = .returned (.int .i64 0) ∧ w' = _) fun _ _ h => ⟨h.1.trans (by rfl), h.2.symm⟩)).mono ?_
  rintro r wX ⟨rfl, rfl⟩
  go_wp2
  have hz := three_set (a := .int .i64 6) (b := .int .i64 n) (c := .slice none 0 0) HR0.out
  have z0 := hz.cell (i := 0) rfl
  have z1 := hz.cell (i := 1) rfl
  have z2 := hz.cell (i := 2) rfl
  refine bodyPost_ret (v := .agg #[.int .i64 6, .int .i64 n, .slice none 0 0]) (by simp [results, z0, z1, z2, go_sem]) rfl (.mkGood (k := 6) (n := n) (args := []) (p := p1) (by rw [HN.out]; rfl) (grownNew (grownNew (grownNew HG.out (Nat.le_refl _) _ _) (Nat.le_refl _) _ _) (Nat.le_refl _) _ _) (Sl.nil_ _ _) (((HP.out.far_ (by omega) 0 _).far_ (by omega) 1 _).far_ (by omega) 2 _))

end Go.Proofs.YtegknpffiaeohaaDoor
