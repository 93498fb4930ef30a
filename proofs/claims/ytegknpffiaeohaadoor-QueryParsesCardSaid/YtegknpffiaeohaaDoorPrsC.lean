/- The parser's query with brackets: walked. Each lemma states its own conditions. -/
import Derived.Test.YtegknpffiaeohaaDoorPrsB
namespace Go.Proofs.YtegknpffiaeohaaDoor
open Go.RowKit

/-- what ask hands back: a query that lies in new blocks; or it fails -/
def AskRes (w : World) (g : Nat) (lv : Value) (l : List Tok) (E : Nat) (R : PR Ask) (r : Ending) (w' : World) : Prop :=
  w.grownBy w' (some g) ∧ match R with
  | .ok q p => ∃ v, r = .returned (.agg #[.int .i64 q.kind, .int .i64 q.n, v]) ∧ Sl askR (low w.heap.size w') v q.args ∧ Ps w' g lv p E
  | .fail p => r = failV (place l E p)
theorem AskRes.bad {w : World} {g : Nat} {lv : Value} {l : List Tok} {E x : Nat} {R : PR Ask} {r : Ending} {w' : World} (h : AskRes w g lv l E R r w') (hR : R = .fail x) : w.grownBy w' (some g) ∧ r = failV (place l E x) := by
  subst hR
  exact h
theorem AskRes.good {w : World} {g : Nat} {lv : Value} {l : List Tok} {E p : Nat} {q : Ask} {R : PR Ask} {r : Ending} {w' : World} (h : AskRes w g lv l E R r w') (hR : R = .ok q p) :
    w.grownBy w' (some g) ∧ Ps w' g lv p E ∧ ∃ A c, r = .returned (.agg #[.int .i64 q.kind, .int .i64 q.n, .slice A q.args.length c]) ∧ Sl askR (low w.heap.size w') (.slice A q.args.length c) q.args := by
  subst hR
  obtain ⟨h1, v, h2, h3, h4⟩ := h
  obtain ⟨A, c, rfl, -⟩ := id h3
  exact ⟨h1, h4, A, c, h2, h3⟩
theorem AskRes.mkBad {w : World} {g : Nat} {lv : Value} {l : List Tok} {E x : Nat} {R : PR Ask} {w' : World} (hR : R = .fail x) (h : w.grownBy w' (some g)) : AskRes w g lv l E R (failV (place l E x)) w' := by
  subst hR
  exact ⟨h, rfl⟩
theorem AskRes.mkGood {w : World} {g : Nat} {lv : Value} {l : List Tok} {E p : Nat} {k n : Int} {args : List Ask} {R : PR Ask} {v : Value} {w' : World} (hR : R = .ok (.mk k n args) p) (h : w.grownBy w' (some g)) (hv : Sl askR (low w.heap.size w') v args) (hp : Ps w' g lv p E) :
    AskRes w g lv l E R (.returned (.agg #[.int .i64 k, .int .i64 n, v])) w' := by
  subst hR
  exact ⟨h, v, rfl, hv, hp⟩
theorem ints_blk {w : World} {G : Nat} {t : TypeId} {cs : Array Value} {xs : List Int} (h : Blk w G t cs) (hx : cs.toList = xs.map (Value.int .i64)) (hl : xs.length ≤ 1000) : Sl intR w (.slice (some ⟨G, 0, none⟩) xs.length xs.length) xs := by
  refine ⟨_, xs.length, rfl, Nat.le_refl _, ⟨by simp only [maxLen]; omega, fun h => by cases h⟩, fun _ => ⟨G, 0, rfl, fun k x hk => ⟨_, rfl, fun j u hu => h.cell ?_⟩⟩⟩
  cases j with
  | zero =>
    rw [← Array.getElem?_toList, hx, List.getElem?_map]
    simp only [intR, Nat.zero_add, Nat.mul_one, Nat.add_zero, hk]
    simpa using hu
  | succ j => simp at hu
theorem Blk.far_ {w : World} {g R : Nat} {t : TypeId} {cs : Array Value} (h : Blk w g t cs) (hne : g ≠ R) (i : Nat) (u : Value) : Blk (w.setCell ⟨R, i, none⟩ u) g t cs := (heap_setCell_other w ⟨R, i, none⟩ g u hne).trans h
theorem grownNew {w W : World} {g R : Nat} (h : w.grownBy W (some g)) (hR : w.heap.size ≤ R) (i : Nat) (u : Value) : w.grownBy (W.setCell ⟨R, i, none⟩ u) (some g) := by
  have k := (Below.refl R W).setCell (p := ⟨R, i, none⟩) (Nat.le_refl _) u
  exact ⟨k.os.trans h.os, k.tape.trans h.tape, k.output.trans h.output, Nat.le_trans h.size k.size, fun x hx hne => (k.block x (by omega)).trans (h.block x hx hne)⟩
theorem three_set {w : World} {R : Nat} {t : TypeId} {x y z a b c : Value} (h : Blk w R t #[x, y, z]) : Blk (((w.setCell ⟨R, 0, none⟩ a).setCell ⟨R, 1, none⟩ b).setCell ⟨R, 2, none⟩ c) R t #[a, b, c] := ((h.set_ 0 a).set_ 1 b).set_ 2 c

set_option maxRecDepth 20000 in
set_option maxHeartbeats 1000000 in
theorem bin_some (l : List Tok) (lv : Value) (p E g : Nat) (D : Int) (f : Nat → PR Ask) (w0 w : World) (hl : Sl tokR w0 lv l) (hn : l.length ≤ 6000) (h0 : Bel w0 w) (hg : w0.heap.size ≤ g) (h : Ps w g lv p E) (hD : 0 ≤ D ∧ D < 60) (ht : tk l p lparB = true)
    (hrec : ∀ q W, q ≤ l.length → Bel w0 W → Ps W g lv q E → Calls Tryd.prog 46 #[.pointer (some ⟨g, 0, none⟩), .int .i64 (D + 1)] W fun r w' => AskRes W g lv l E (f q) r w')
    (hf : ∀ q, q ≤ l.length → Within l.length (f q)) :
    Calls Tryd.prog 46 #[.pointer (some ⟨g, 0, none⟩), .int .i64 D] w fun r w' => AskRes w g lv l E (binP l f p) r w' := by
  have hp := tk_lt ht
  have hglt := h.lt
  have HT := Lib.hid (fun W (hb : Bel w W) => take_yes l lv p E g ⟨#[40]⟩ W (hl.keep (h0.tr hb)) hn (h.keep hb) ht)
  have HREC := Lib.hid hrec
  have HF := Lib.hid hf
  have HR0 := Lib.hid (Blk.new w 24 #[.int .i64 0, .int .i64 0, .slice none 0 0])
  have HB0 := Lib.hid ((Bel.rfl_ w).al (.cells #[.int .i64 0, .int .i64 0, .slice none 0 0] 24))
  have HSW : Hid (w.heap.size + 1 ≤ (w.alloc (.cells #[.int .i64 0, .int .i64 0, .slice none 0 0] 24)).heap.size) := Lib.hid (by simp)
  clear hrec hf
  go_enter Tryd.func46, Tryd.ntmps46
  go_upto_region 1 with fail
  generalize w.alloc (.cells #[.int .i64 0, .int .i64 0, .slice none 0 0] 24) = W0 at *
  go_wp2_with fail
  refine (HT.out _ HB0.out).mono ?_
  rintro r w1 ⟨rfl, hp1, hg1⟩
  have HP := Lib.hid hp1
  have HG := Lib.hid ((HB0.out.grown (some g)).trans hg1)
  replace HR0 := Lib.hid (HR0.out.grown hg1 (by simp; omega))
  replace HSW := Lib.hid (Nat.le_trans HSW.out hg1.size)
  have hd : (D == 60) = false := by simp; omega
  clear hp1 hg1 HT HB0 h ht
  go_wp2_with fail
  refine (HREC.out (p + 1) _ (by omega) (grownBel h0 hg HG.out) HP.out).mono ?_
  rintro r w2 hres
  cases hR1 : f (p + 1) with
  | fail x =>
    obtain ⟨hg2, rfl⟩ := hres.bad hR1
    have HG2 := Lib.hid (HG.out.trans hg2)
    have HR1 := Lib.hid hR1
    clear hg2 hR1 hres
    go_wp2
    exact ⟨rfl, .mkBad (by unfold binP; rw [HR1.out]) HG2.out⟩
  | ok a p1 =>
  obtain ⟨hg2, hp2, A1, c1, rfl, hs2⟩ := hres.good hR1
  have hp1l := (HF.out (p + 1) (by omega)).1 a p1 hR1
  have HR1 := Lib.hid hR1
  have hba := (Bel.rfl_ w2).al (.cells #[.int .i64 a.kind, .int .i64 a.n, .slice A1 a.args.length c1] 24)
  replace HP := Lib.hid (hp2.keep hba)
  replace HG := Lib.hid ((HG.out.trans hg2).trans (hba.grown (some g)))
  replace HR0 := Lib.hid ((HR0.out.grown hg2 (by simp; omega)).keep hba)
  have HA := Lib.hid ((low_mono (B' := w.heap.size + 1) HSW.out hs2).keep (low_belB hba))
  have HAB := Lib.hid (Blk.new w2 24 #[.int .i64 a.kind, .int .i64 a.n, .slice A1 a.args.length c1])
  have HAG : Hid (w.heap.size < w2.heap.size) := Lib.hid (by have := HSW.out; have := hg2.size; omega)
  replace HSW := Lib.hid (Nat.le_trans HSW.out (Nat.le_trans hg2.size hba.size))
  clear hp2 hg2 hres hs2 hR1 hba
  go_upto_region 6 with fail
  generalize w2.alloc (.cells #[.int .i64 a.kind, .int .i64 a.n, .slice A1 a.args.length c1] 24) = W3 at *
  generalize w2.heap.size = GA at *
  have hb3 := (Bel.rfl_ W3).al (.cells #[.int .i64 8, .int .i64 9, .int .i64 13] 3)
  have HWD := Lib.hid (word_any l lv (.slice (some ⟨W3.heap.size, 0, none⟩) 3 3) binK p1 E g (W3.alloc (.cells #[.int .i64 8, .int .i64 9, .int .i64 13] 3)) ((hl.keep (grownBel h0 hg HG.out)).keep hb3) hn (HP.out.keep hb3) (ints_blk (xs := [8, 9, 13]) (Blk.new W3 3 _) rfl (by decide)) (by decide) (by decide))
  replace HG := Lib.hid (HG.out.trans (hb3.grown (some g)))
  replace HR0 := Lib.hid (HR0.out.keep hb3)
  replace HA := Lib.hid (HA.out.keep (low_belB hb3))
  replace HAB := Lib.hid (HAB.out.keep hb3)
  replace HSW := Lib.hid (Nat.le_trans HSW.out hb3.size)
  clear hb3
  go_wp2_with fail
  refine HWD.out.mono ?_
  rintro r w4 hres
  cases hR2 : wordP l binK p1 with
  | none =>
    rw [hR2] at hres
    obtain ⟨rfl, hb4⟩ := hres
    have HG2 := Lib.hid (HG.out.trans (hb4.grown (some g)))
    have HR2 := Lib.hid hR2
    clear hb4 hR2
    go_wp2
    exact ⟨rfl, .mkBad (by unfold binP; rw [HR1.out]; simp only []; rw [HR2.out]) HG2.out⟩
  | some k =>
  rw [hR2] at hres
  obtain ⟨rfl, hp4, hg4⟩ := hres
  have hp4l := tk_lt (wordP_some hR2).2
  have HR2 := Lib.hid hR2
  replace HP := Lib.hid hp4
  replace HG := Lib.hid (HG.out.trans hg4)
  replace HR0 := Lib.hid (HR0.out.grown hg4 (by simp; omega))
  replace HA := Lib.hid (HA.out.keep (low_grown hg4 (by omega)))
  replace HAB := Lib.hid (HAB.out.grown hg4 (by have := HAG.out; simp; omega))
  replace HSW := Lib.hid (Nat.le_trans HSW.out hg4.size)
  clear hp4 hg4 hR2 HWD
  go_wp2_with fail
  refine (HREC.out (p1 + 1) _ (by omega) (grownBel h0 hg HG.out) HP.out).mono ?_
  rintro r w5 hres
  cases hR3 : f (p1 + 1) with
  | fail x =>
    obtain ⟨hg5, rfl⟩ := hres.bad hR3
    have HG2 := Lib.hid (HG.out.trans hg5)
    have HR3 := Lib.hid hR3
    clear hg5 hR3 hres
    go_wp2
    exact ⟨rfl, .mkBad (by unfold binP; rw [HR1.out]; simp only []; rw [HR2.out]; simp only []; rw [HR3.out]) HG2.out⟩
  | ok b p2 =>
  obtain ⟨hg5, hp5, A2, c2, rfl, hs5⟩ := hres.good hR3
  have HR3 := Lib.hid hR3
  have hba := (Bel.rfl_ w5).al (.cells #[.int .i64 b.kind, .int .i64 b.n, .slice A2 b.args.length c2] 24)
  replace HP := Lib.hid (hp5.keep hba)
  replace HG := Lib.hid ((HG.out.trans hg5).trans (hba.grown (some g)))
  replace HR0 := Lib.hid ((HR0.out.grown hg5 (by simp; omega)).keep hba)
  replace HA := Lib.hid ((HA.out.keep (low_grown hg5 (by omega))).keep (low_belB hba))
  replace HAB := Lib.hid ((HAB.out.grown hg5 (by have := HAG.out; simp; omega)).keep hba)
  have HBA := Lib.hid ((low_mono (B' := w.heap.size + 1) HSW.out hs5).keep (low_belB hba))
  have HBB := Lib.hid (Blk.new w5 24 #[.int .i64 b.kind, .int .i64 b.n, .slice A2 b.args.length c2])
  have HBG : Hid (w.heap.size < w5.heap.size) := Lib.hid (by have := HSW.out; have := hg5.size; omega)
  replace HSW := Lib.hid (Nat.le_trans HSW.out (Nat.le_trans hg5.size hba.size))
  clear hp5 hg5 hres hs5 hR3 hba HREC HF
  go_upto_region 8 with fail
  generalize w5.alloc (.cells #[.int .i64 b.kind, .int .i64 b.n, .slice A2 b.args.length c2] 24) = W6 at *
  generalize w5.heap.size = GB at *
  have HLK := Lib.hid (hl.keep (grownBel h0 hg HG.out))
  by_cases ht2 : tk l p2 rparB = true
  rotate_left
  · have ht2 : tk l p2 rparB = false := by simpa using ht2
    have HTN := Lib.hid (take_no l lv p2 E g ⟨#[41]⟩ W6 HLK.out hn HP.out ht2)
    have HFL := Lib.hid (fun W (hb : Bel W6 W) => fail_any l lv p2 E g W (HLK.out.keep hb) hn (HP.out.keep hb))
    have HT2 := Lib.hid ht2
    clear ht2
    go_wp2_with fail
    refine HTN.out.mono ?_
    rintro r w7 ⟨rfl, hb7⟩
    have HB7 := Lib.hid hb7
    clear hb7 HTN
    go_wp2_with fail
    refine (HFL.out _ HB7.out).mono ?_
    rintro r w8 ⟨rfl, hb8⟩
    have HG2 := Lib.hid (HG.out.trans ((HB7.out.tr hb8).grown (some g)))
    clear hb8
    go_wp2
    exact ⟨rfl, .mkBad (by unfold binP; rw [HR1.out]; simp only []; rw [HR2.out]; simp only []; rw [HR3.out]; simp only []; rw [if_neg (by rw [HT2.out]; decide)]) HG2.out⟩
  · have HTY := Lib.hid (take_yes l lv p2 E g ⟨#[41]⟩ W6 HLK.out hn HP.out ht2)
    have HT2 := Lib.hid ht2
    clear ht2
    go_wp2_with fail
    refine HTY.out.mono ?_
    rintro r w7 ⟨rfl, hp7, hg7⟩
    replace HP := Lib.hid hp7
    replace HG := Lib.hid (HG.out.trans hg7)
    replace HR0 := Lib.hid (HR0.out.grown hg7 (by simp; omega))
    replace HA := Lib.hid (HA.out.keep (low_grown hg7 (by omega)))
    replace HAB := Lib.hid (HAB.out.grown hg7 (by have := HAG.out; simp; omega))
    replace HBA := Lib.hid (HBA.out.keep (low_grown hg7 (by omega)))
    replace HBB := Lib.hid (HBB.out.grown hg7 (by have := HBG.out; simp; omega))
    replace HSW := Lib.hid (Nat.le_trans HSW.out hg7.size)
    clear hp7 hg7 HTY HLK
    have x0 := HAB.out.cell (i := 0) (v := .int .i64 a.kind) rfl
    have x1 := HAB.out.cell (i := 1) (v := .int .i64 a.n) rfl
    have x2 := HAB.out.cell (i := 2) (v := .slice A1 a.args.length c1) rfl
    have y0 := HBB.out.cell (i := 0) (v := .int .i64 b.kind) rfl
    have y1 := HBB.out.cell (i := 1) (v := .int .i64 b.n) rfl
    have y2 := HBB.out.cell (i := 2) (v := .slice A2 b.args.length c2) rfl
    have hb8 := (Bel.rfl_ w7).al (.cells #[.int .i64 a.kind, .int .i64 a.n, .slice A1 a.args.length c1, .int .i64 b.kind, .int .i64 b.n, .slice A2 b.args.length c2] 24)
    replace HR0 := Lib.hid (HR0.out.keep hb8)
    replace HP := Lib.hid (HP.out.keep hb8)
    replace HG := Lib.hid (HG.out.trans (hb8.grown (some g)))
    have HQ := Lib.hid (Blk.new w7 24 #[.int .i64 a.kind, .int .i64 a.n, .slice A1 a.args.length c1, .int .i64 b.kind, .int .i64 b.n, .slice A2 b.args.length c2])
    replace HA := Lib.hid (HA.out.keep (low_belB hb8))
    replace HBA := Lib.hid (HBA.out.keep (low_belB hb8))
    have r0 := HR0.out.cell (i := 0) (v := .int .i64 0) rfl
    have r1 := HR0.out.cell (i := 1) (v := .int .i64 0) rfl
    have r2 := HR0.out.cell (i := 2) (v := .slice none 0 0) rfl
    have f0 := HR0.out.frozen 0
    have f1 := HR0.out.frozen 1
    have f2 := HR0.out.frozen 2
    have HQG : Hid (w.heap.size + 1 ≤ w7.heap.size) := Lib.hid HSW.out
    clear hb8
    go_wp2
    generalize w7.alloc (.cells #[.int .i64 a.kind, .int .i64 a.n, .slice A1 a.args.length c1, .int .i64 b.kind, .int .i64 b.n, .slice A2 b.args.length c2] 24) = W8 at *
    generalize w7.heap.size = GQ at *
    have hz := three_set (a := .int .i64 k) (b := .int .i64 0) (c := .slice (some ⟨GQ, 0, none⟩) 2 2) HR0.out
    have z0 := hz.cell (i := 0) rfl
    have z1 := hz.cell (i := 1) rfl
    have z2 := hz.cell (i := 2) rfl
    have hsn := Nat.lt_succ_self w.heap.size
    have hqn := HQG.out
    refine bodyPost_ret (v := .agg #[.int .i64 k, .int .i64 0, .slice (some ⟨GQ, 0, none⟩) 2 2]) (by simp [results, z0, z1, z2, go_sem]) rfl (.mkGood (k := k) (n := 0) (args := [a, b]) (p := p2 + 1) ?_ ?_ ?_ ?_)
    · unfold binP; rw [HR1.out]; simp only []; rw [HR2.out]; simp only []; rw [HR3.out]; simp only []; rw [if_pos HT2.out]
    · exact grownNew (grownNew (grownNew HG.out (Nat.le_refl _) _ _) (Nat.le_refl _) _ _) (Nat.le_refl _) _ _
    · refine low_mono (Nat.le_succ _) (low_two (B := w.heap.size + 1) (((HQ.out.far_ (by omega) 0 _).far_ (by omega) 1 _).far_ (by omega) 2 _) HQG.out ?_ ?_)
      · exact ((HA.out.keep (low_set _ _ hsn)).keep (low_set _ _ hsn)).keep (low_set _ _ hsn)
      · exact ((HBA.out.keep (low_set _ _ hsn)).keep (low_set _ _ hsn)).keep (low_set _ _ hsn)
    · exact ((HP.out.far_ (by omega) 0 _).far_ (by omega) 1 _).far_ (by omega) 2 _

end Go.Proofs.YtegknpffiaeohaaDoor
