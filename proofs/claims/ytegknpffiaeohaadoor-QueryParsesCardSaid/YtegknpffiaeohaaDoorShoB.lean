/- The program's show, kind by kind: walked. Each lemma states its own conditions. -/
import Derived.Test.YtegknpffiaeohaaDoorShoA
namespace Go.Proofs.YtegknpffiaeohaaDoor
open Go.RowKit

set_option maxRecDepth 20000 in
set_option maxHeartbeats 1000000 in
theorem sh10_any (n : Int) (b o c : Nat) (x0 x1 : Int) (X : Option Addr) (m cc : Nat) (T : ByteArray) (w : World) (hn : -9999999 ≤ n ∧ n ≤ 9999999) (ht : Tab w) (h0 : w.cell? ⟨b, o, none⟩ = some (.int .i64 x0)) (h1 : w.cell? ⟨b, o + 1, none⟩ = some (.int .i64 x1)) (h2 : w.cell? ⟨b, o + 2, none⟩ = some (.slice X m cc)) (hT : T.size ≤ 450) (hr : ∀ W, Bel w W → Calls Tryd.prog 21 #[.agg #[.int .i64 x0, .int .i64 x1, .slice X m cc]] W fun r w' => r = .returned (.string T) ∧ Bel W w') :
    Calls Tryd.prog 21 #[.agg #[.int .i64 10, .int .i64 n, .slice (some ⟨b, o, none⟩) 1 c]] w fun r w' => r = .returned (.string (textK 10 n [T])) ∧ Bel w w' := by
  have HW := Lib.hid words_any
  have HIT := Lib.hid (fun W (hb : Bel w W) => itoa_any n W hn (ht.keep hb))
  have HQ := Lib.hid (Blk.new w 24 #[.int .i64 10, .int .i64 n, .slice (some ⟨b, o, none⟩) 1 c])
  have HB := Lib.hid ((Bel.rfl_ w).al (.cells #[.int .i64 10, .int .i64 n, .slice (some ⟨b, o, none⟩) 1 c] 24))
  have hws := wordB_size 10
  have hds := digB_size hn
  have HTX : Hid (textK 10 n [T] = (wordB 10 ++ blankB) ++ T) := Lib.hid (by unfold textK; simp [headB])
  have HC := Lib.hid (fun W (hb : Bel w W) => And.intro (hb.cell h0) (And.intro (hb.cell h1) (hb.cell h2)))
  have HR := Lib.hid hr
  clear ht hn hr h0 h1 h2
  go_enter Tryd.func21, Tryd.ntmps21
  go_upto_region 1 with fail
  generalize w.alloc (.cells #[.int .i64 10, .int .i64 n, .slice (some ⟨b, o, none⟩) 1 c] 24) = W0 at *
  generalize w.heap.size = Q at *
  go_cut [3] from 5 to 9 (fun s wx => s = .string (wordB 10) ∧ Hid (Bel W0 wx))
  case first =>
    have q0 := HQ.out.cell (i := 0) (v := .int .i64 10) rfl
    have HQC := Lib.hid (fun W (hb : Bel W0 W) => (HQ.out.keep hb).cell (i := 0) (v := .int .i64 10) rfl)
    clear HIT HB HC HR
    as_aux_lemma =>
      go_region_law (first | (go_simp; go_at_call 38; refine (HW.out _).mono ?_; rintro r w2 ⟨rfl, hw2, hb2⟩; have hbX : Hid (Bel W0 w2) := Lib.hid (Bel.tr (by repeat (first | exact Bel.rfl_ _ | apply Bel.dr)) hb2); have x1 : w2.cell? ⟨W0.heap.size, 10, none⟩ = some (.string (wordB 10)) := hw2.cell (k := 10) (by omega); have qx := HQC.out _ hbX.out; clear hb2 hw2))
      all_goals go_wp2
      all_goals go_meet
      all_goals exact ⟨rfl, hbX⟩
  case rest =>
  obtain ⟨rfl, hbc⟩ := hcut
  replace HB := Lib.hid (HB.out.tr hbc.out)
  replace HQ := Lib.hid (HQ.out.keep hbc.out)
  clear hbc HW
  generalize wordB 10 = s at *
  generalize digB n = d at *
  have q1 := HQ.out.cell (i := 1) (v := .int .i64 n) rfl
  go_wp2_with fail
  refine (HIT.out _ HB.out).mono ?_
  rintro r w3 ⟨rfl, hb3⟩
  replace HB := Lib.hid (HB.out.tr hb3)
  replace HQ := Lib.hid (HQ.out.keep hb3)
  clear hb3 q1 HIT
  have q0 := HQ.out.cell (i := 0) (v := .int .i64 10) rfl
  have q1 := HQ.out.cell (i := 1) (v := .int .i64 n) rfl
  have q2 := HQ.out.cell (i := 2) (v := .slice (some ⟨b, o, none⟩) 1 c) rfl
  have e1 : (⟨#[32]⟩ : ByteArray) = blankB := rfl
  have e2 : blankB.size = 1 := rfl
  have z1 : (s ++ blankB).size = s.size + 1 := by rw [ByteArray.size_append, e2]
  obtain ⟨x0, x1, x2⟩ := HC.out _ HB.out
  go_wp2_with fail
  refine (HR.out _ HB.out).mono ?_
  rintro r w4 ⟨rfl, hb4⟩
  replace HB := Lib.hid (HB.out.tr hb4)
  clear hb4 q0 q1 q2 x0 x1 x2 HR HC HQ
  go_wp2
  go_ret
  exact ⟨by rw [HTX.out]; rfl, HB.out⟩

set_option maxRecDepth 20000 in
set_option maxHeartbeats 1000000 in
theorem sh11_any (n : Int) (b o c : Nat) (x0 x1 : Int) (X : Option Addr) (m cc : Nat) (T : ByteArray) (w : World) (hn : -9999999 ≤ n ∧ n ≤ 9999999) (ht : Tab w) (h0 : w.cell? ⟨b, o, none⟩ = some (.int .i64 x0)) (h1 : w.cell? ⟨b, o + 1, none⟩ = some (.int .i64 x1)) (h2 : w.cell? ⟨b, o + 2, none⟩ = some (.slice X m cc)) (hT : T.size ≤ 450) (hr : ∀ W, Bel w W → Calls Tryd.prog 21 #[.agg #[.int .i64 x0, .int .i64 x1, .slice X m cc]] W fun r w' => r = .returned (.string T) ∧ Bel W w') :
    Calls Tryd.prog 21 #[.agg #[.int .i64 11, .int .i64 n, .slice (some ⟨b, o, none⟩) 1 c]] w fun r w' => r = .returned (.string (textK 11 n [T])) ∧ Bel w w' := by
  have HW := Lib.hid words_any
  have HIT := Lib.hid (fun W (hb : Bel w W) => itoa_any n W hn (ht.keep hb))
  have HQ := Lib.hid (Blk.new w 24 #[.int .i64 11, .int .i64 n, .slice (some ⟨b, o, none⟩) 1 c])
  have HB := Lib.hid ((Bel.rfl_ w).al (.cells #[.int .i64 11, .int .i64 n, .slice (some ⟨b, o, none⟩) 1 c] 24))
  have hws := wordB_size 11
  have hds := digB_size hn
  have HTX : Hid (textK 11 n [T] = (wordB 11 ++ blankB) ++ T) := Lib.hid (by unfold textK; simp [headB])
  have HC := Lib.hid (fun W (hb : Bel w W) => And.intro (hb.cell h0) (And.intro (hb.cell h1) (hb.cell h2)))
  have HR := Lib.hid hr
  clear ht hn hr h0 h1 h2
  go_enter Tryd.func21, Tryd.ntmps21
  go_upto_region 1 with fail
  generalize w.alloc (.cells #[.int .i64 11, .int .i64 n, .slice (some ⟨b, o, none⟩) 1 c] 24) = W0 at *
  generalize w.heap.size = Q at *
  go_cut [3] from 5 to 9 (fun s wx => s = .string (wordB 11) ∧ Hid (Bel W0 wx))
  case first =>
    have q0 := HQ.out.cell (i := 0) (v := .int .i64 11) rfl
    have HQC := Lib.hid (fun W (hb : Bel W0 W) => (HQ.out.keep hb).cell (i := 0) (v := .int .i64 11) rfl)
    clear HIT HB HC HR
    as_aux_lemma =>
      go_region_law (first | (go_simp; go_at_call 38; refine (HW.out _).mono ?_; rintro r w2 ⟨rfl, hw2, hb2⟩; have hbX : Hid (Bel W0 w2) := Lib.hid (Bel.tr (by repeat (first | exact Bel.rfl_ _ | apply Bel.dr)) hb2); have x1 : w2.cell? ⟨W0.heap.size, 11, none⟩ = some (.string (wordB 11)) := hw2.cell (k := 11) (by omega); have qx := HQC.out _ hbX.out; clear hb2 hw2))
      all_goals go_wp2
      all_goals go_meet
      all_goals exact ⟨rfl, hbX⟩
  case rest =>
  obtain ⟨rfl, hbc⟩ := hcut
  replace HB := Lib.hid (HB.out.tr hbc.out)
  replace HQ := Lib.hid (HQ.out.keep hbc.out)
  clear hbc HW
  generalize wordB 11 = s at *
  generalize digB n = d at *
  have q1 := HQ.out.cell (i := 1) (v := .int .i64 n) rfl
  go_wp2_with fail
  refine (HIT.out _ HB.out).mono ?_
  rintro r w3 ⟨rfl, hb3⟩
  replace HB := Lib.hid (HB.out.tr hb3)
  replace HQ := Lib.hid (HQ.out.keep hb3)
  clear hb3 q1 HIT
  have q0 := HQ.out.cell (i := 0) (v := .int .i64 11) rfl
  have q1 := HQ.out.cell (i := 1) (v := .int .i64 n) rfl
  have q2 := HQ.out.cell (i := 2) (v := .slice (some ⟨b, o, none⟩) 1 c) rfl
  have e1 : (⟨#[32]⟩ : ByteArray) = blankB := rfl
  have e2 : blankB.size = 1 := rfl
  have z1 : (s ++ blankB).size = s.size + 1 := by rw [ByteArray.size_append, e2]
  obtain ⟨x0, x1, x2⟩ := HC.out _ HB.out
  go_wp2_with fail
  refine (HR.out _ HB.out).mono ?_
  rintro r w4 ⟨rfl, hb4⟩
  replace HB := Lib.hid (HB.out.tr hb4)
  clear hb4 q0 q1 q2 x0 x1 x2 HR HC HQ
  go_wp2
  go_ret
  exact ⟨by rw [HTX.out]; rfl, HB.out⟩

set_option maxRecDepth 20000 in
set_option maxHeartbeats 1000000 in
theorem sh12_any (n : Int) (b o c : Nat) (x0 x1 : Int) (X : Option Addr) (m cc : Nat) (T : ByteArray) (w : World) (hn : -9999999 ≤ n ∧ n ≤ 9999999) (ht : Tab w) (h0 : w.cell? ⟨b, o, none⟩ = some (.int .i64 x0)) (h1 : w.cell? ⟨b, o + 1, none⟩ = some (.int .i64 x1)) (h2 : w.cell? ⟨b, o + 2, none⟩ = some (.slice X m cc)) (hT : T.size ≤ 450) (hr : ∀ W, Bel w W → Calls Tryd.prog 21 #[.agg #[.int .i64 x0, .int .i64 x1, .slice X m cc]] W fun r w' => r = .returned (.string T) ∧ Bel W w') :
    Calls Tryd.prog 21 #[.agg #[.int .i64 12, .int .i64 n, .slice (some ⟨b, o, none⟩) 1 c]] w fun r w' => r = .returned (.string (textK 12 n [T])) ∧ Bel w w' := by
  have HW := Lib.hid words_any
  have HIT := Lib.hid (fun W (hb : Bel w W) => itoa_any n W hn (ht.keep hb))
  have HQ := Lib.hid (Blk.new w 24 #[.int .i64 12, .int .i64 n, .slice (some ⟨b, o, none⟩) 1 c])
  have HB := Lib.hid ((Bel.rfl_ w).al (.cells #[.int .i64 12, .int .i64 n, .slice (some ⟨b, o, none⟩) 1 c] 24))
  have hws := wordB_size 12
  have hds := digB_size hn
  have HTX : Hid (textK 12 n [T] = (wordB 12 ++ blankB) ++ T) := Lib.hid (by unfold textK; simp [headB])
  have HC := Lib.hid (fun W (hb : Bel w W) => And.intro (hb.cell h0) (And.intro (hb.cell h1) (hb.cell h2)))
  have HR := Lib.hid hr
  clear ht hn hr h0 h1 h2
  go_enter Tryd.func21, Tryd.ntmps21
  go_upto_region 1 with fail
  generalize w.alloc (.cells #[.int .i64 12, .int .i64 n, .slice (some ⟨b, o, none⟩) 1 c] 24) = W0 at *
  generalize w.heap.size = Q at *
  go_cut [3] from 5 to 9 (fun s wx => s = .string (wordB 12) ∧ Hid (Bel W0 wx))
  case first =>
    have q0 := HQ.out.cell (i := 0) (v := .int .i64 12) rfl
    have HQC := Lib.hid (fun W (hb : Bel W0 W) => (HQ.out.keep hb).cell (i := 0) (v := .int .i64 12) rfl)
    clear HIT HB HC HR
    as_aux_lemma =>
      go_region_law (first | (go_simp; go_at_call 38; refine (HW.out _).mono ?_; rintro r w2 ⟨rfl, hw2, hb2⟩; have hbX : Hid (Bel W0 w2) := Lib.hid (Bel.tr (by repeat (first | exact Bel.rfl_ _ | apply Bel.dr)) hb2); have x1 : w2.cell? ⟨W0.heap.size, 12, none⟩ = some (.string (wordB 12)) := hw2.cell (k := 12) (by omega); have qx := HQC.out _ hbX.out; clear hb2 hw2))
      all_goals go_wp2
      all_goals go_meet
      all_goals exact ⟨rfl, hbX⟩
  case rest =>
  obtain ⟨rfl, hbc⟩ := hcut
  replace HB := Lib.hid (HB.out.tr hbc.out)
  replace HQ := Lib.hid (HQ.out.keep hbc.out)
  clear hbc HW
  generalize wordB 12 = s at *
  generalize digB n = d at *
  have q1 := HQ.out.cell (i := 1) (v := .int .i64 n) rfl
  go_wp2_with fail
  refine (HIT.out _ HB.out).mono ?_
  rintro r w3 ⟨rfl, hb3⟩
  replace HB := Lib.hid (HB.out.tr hb3)
  replace HQ := Lib.hid (HQ.out.keep hb3)
  clear hb3 q1 HIT
  have q0 := HQ.out.cell (i := 0) (v := .int .i64 12) rfl
  have q1 := HQ.out.cell (i := 1) (v := .int .i64 n) rfl
  have q2 := HQ.out.cell (i := 2) (v := .slice (some ⟨b, o, none⟩) 1 c) rfl
  have e1 : (⟨#[32]⟩ : ByteArray) = blankB := rfl
  have e2 : blankB.size = 1 := rfl
  have z1 : (s ++ blankB).size = s.size + 1 := by rw [ByteArray.size_append, e2]
  obtain ⟨x0, x1, x2⟩ := HC.out _ HB.out
  go_wp2_with fail
  refine (HR.out _ HB.out).mono ?_
  rintro r w4 ⟨rfl, hb4⟩
  replace HB := Lib.hid (HB.out.tr hb4)
  clear hb4 q0 q1 q2 x0 x1 x2 HR HC HQ
  go_wp2
  go_ret
  exact ⟨by rw [HTX.out]; rfl, HB.out⟩

set_option maxRecDepth 20000 in
set_option maxHeartbeats 1000000 in
theorem sh14_any (n : Int) (b o c : Nat) (x0 x1 : Int) (X : Option Addr) (m cc : Nat) (T : ByteArray) (w : World) (hn : -9999999 ≤ n ∧ n ≤ 9999999) (ht : Tab w) (h0 : w.cell? ⟨b, o, none⟩ = some (.int .i64 x0)) (h1 : w.cell? ⟨b, o + 1, none⟩ = some (.int .i64 x1)) (h2 : w.cell? ⟨b, o + 2, none⟩ = some (.slice X m cc)) (hT : T.size ≤ 450) (hr : ∀ W, Bel w W → Calls Tryd.prog 21 #[.agg #[.int .i64 x0, .int .i64 x1, .slice X m cc]] W fun r w' => r = .returned (.string T) ∧ Bel W w') :
    Calls Tryd.prog 21 #[.agg #[.int .i64 14, .int .i64 n, .slice (some ⟨b, o, none⟩) 1 c]] w fun r w' => r = .returned (.string (textK 14 n [T])) ∧ Bel w w' := by
  have HW := Lib.hid words_any
  have HIT := Lib.hid (fun W (hb : Bel w W) => itoa_any n W hn (ht.keep hb))
  have HQ := Lib.hid (Blk.new w 24 #[.int .i64 14, .int .i64 n, .slice (some ⟨b, o, none⟩) 1 c])
  have HB := Lib.hid ((Bel.rfl_ w).al (.cells #[.int .i64 14, .int .i64 n, .slice (some ⟨b, o, none⟩) 1 c] 24))
  have hws := wordB_size 14
  have hds := digB_size hn
  have HTX : Hid (textK 14 n [T] = (((wordB 14 ++ blankB) ++ digB n) ++ blankB) ++ T) := Lib.hid (by unfold textK; simp [headB])
  have HC := Lib.hid (fun W (hb : Bel w W) => And.intro (hb.cell h0) (And.intro (hb.cell h1) (hb.cell h2)))
  have HR := Lib.hid hr
  clear ht hn hr h0 h1 h2
  go_enter Tryd.func21, Tryd.ntmps21
  go_upto_region 1 with fail
  generalize w.alloc (.cells #[.int .i64 14, .int .i64 n, .slice (some ⟨b, o, none⟩) 1 c] 24) = W0 at *
  generalize w.heap.size = Q at *
  go_cut [3] from 5 to 9 (fun s wx => s = .string (wordB 14) ∧ Hid (Bel W0 wx))
  case first =>
    have q0 := HQ.out.cell (i := 0) (v := .int .i64 14) rfl
    have HQC := Lib.hid (fun W (hb : Bel W0 W) => (HQ.out.keep hb).cell (i := 0) (v := .int .i64 14) rfl)
    clear HIT HB HC HR
    as_aux_lemma =>
      go_region_law (first | (go_simp; go_at_call 38; refine (HW.out _).mono ?_; rintro r w2 ⟨rfl, hw2, hb2⟩; have hbX : Hid (Bel W0 w2) := Lib.hid (Bel.tr (by repeat (first | exact Bel.rfl_ _ | apply Bel.dr)) hb2); have x1 : w2.cell? ⟨W0.heap.size, 14, none⟩ = some (.string (wordB 14)) := hw2.cell (k := 14) (by omega); have qx := HQC.out _ hbX.out; clear hb2 hw2))
      all_goals go_wp2
      all_goals go_meet
      all_goals exact ⟨rfl, hbX⟩
  case rest =>
  obtain ⟨rfl, hbc⟩ := hcut
  replace HB := Lib.hid (HB.out.tr hbc.out)
  replace HQ := Lib.hid (HQ.out.keep hbc.out)
  clear hbc HW
  generalize wordB 14 = s at *
  generalize digB n = d at *
  have q1 := HQ.out.cell (i := 1) (v := .int .i64 n) rfl
  go_wp2_with fail
  refine (HIT.out _ HB.out).mono ?_
  rintro r w3 ⟨rfl, hb3⟩
  replace HB := Lib.hid (HB.out.tr hb3)
  replace HQ := Lib.hid (HQ.out.keep hb3)
  clear hb3 q1 HIT
  have q0 := HQ.out.cell (i := 0) (v := .int .i64 14) rfl
  have q1 := HQ.out.cell (i := 1) (v := .int .i64 n) rfl
  have q2 := HQ.out.cell (i := 2) (v := .slice (some ⟨b, o, none⟩) 1 c) rfl
  have e1 : (⟨#[32]⟩ : ByteArray) = blankB := rfl
  have e2 : blankB.size = 1 := rfl
  have z1 : (s ++ blankB).size = s.size + 1 := by rw [ByteArray.size_append, e2]
  obtain ⟨x0, x1, x2⟩ := HC.out _ HB.out
  have z2 : ((s ++ blankB) ++ d).size = s.size + 1 + d.size := by rw [ByteArray.size_append, z1]
  have z3 : (((s ++ blankB) ++ d) ++ blankB).size = s.size + 1 + d.size + 1 := by rw [ByteArray.size_append, z2, e2]
  go_wp2_with fail
  refine (HR.out _ HB.out).mono ?_
  rintro r w4 ⟨rfl, hb4⟩
  replace HB := Lib.hid (HB.out.tr hb4)
  clear hb4 q0 q1 q2 x0 x1 x2 HR HC HQ
  go_wp2
  go_ret
  exact ⟨by rw [HTX.out]; rfl, HB.out⟩

set_option maxRecDepth 20000 in
set_option maxHeartbeats 1000000 in
theorem sh8_any (n : Int) (b o c : Nat) (x0 x1 : Int) (X : Option Addr) (m cc : Nat) (y0 y1 : Int) (Y : Option Addr) (mm dd : Nat) (T T2 : ByteArray) (w : World) (hn : -9999999 ≤ n ∧ n ≤ 9999999) (ht : Tab w) (h0 : w.cell? ⟨b, o, none⟩ = some (.int .i64 x0)) (h1 : w.cell? ⟨b, o + 1, none⟩ = some (.int .i64 x1)) (h2 : w.cell? ⟨b, o + 2, none⟩ = some (.slice X m cc)) (hT : T.size ≤ 450) (hr : ∀ W, Bel w W → Calls Tryd.prog 21 #[.agg #[.int .i64 x0, .int .i64 x1, .slice X m cc]] W fun r w' => r = .returned (.string T) ∧ Bel W w') (h3 : w.cell? ⟨b, o + 3, none⟩ = some (.int .i64 y0)) (h4 : w.cell? ⟨b, o + 3 + 1, none⟩ = some (.int .i64 y1)) (h5 : w.cell? ⟨b, o + 3 + 2, none⟩ = some (.slice Y mm dd)) (hT2 : T2.size ≤ 450) (hr2 : ∀ W, Bel w W → Calls Tryd.prog 21 #[.agg #[.int .i64 y0, .int .i64 y1, .slice Y mm dd]] W fun r w' => r = .returned (.string T2) ∧ Bel W w') :
    Calls Tryd.prog 21 #[.agg #[.int .i64 8, .int .i64 n, .slice (some ⟨b, o, none⟩) 2 c]] w fun r w' => r = .returned (.string (textK 8 n [T, T2])) ∧ Bel w w' := by
  have HW := Lib.hid words_any
  have HIT := Lib.hid (fun W (hb : Bel w W) => itoa_any n W hn (ht.keep hb))
  have HQ := Lib.hid (Blk.new w 24 #[.int .i64 8, .int .i64 n, .slice (some ⟨b, o, none⟩) 2 c])
  have HB := Lib.hid ((Bel.rfl_ w).al (.cells #[.int .i64 8, .int .i64 n, .slice (some ⟨b, o, none⟩) 2 c] 24))
  have hws := wordB_size 8
  have hds := digB_size hn
  have HTX : Hid (textK 8 n [T, T2] = (((((lparB ++ T) ++ blankB) ++ wordB 8) ++ blankB) ++ T2) ++ rparB) := Lib.hid (by unfold textK; simp [])
  have HC := Lib.hid (fun W (hb : Bel w W) => And.intro (hb.cell h0) (And.intro (hb.cell h1) (hb.cell h2)))
  have HR := Lib.hid hr
  have HC2 := Lib.hid (fun W (hb : Bel w W) => And.intro (hb.cell h3) (And.intro (hb.cell h4) (hb.cell h5)))
  have HR2 := Lib.hid hr2
  clear ht hn hr h0 h1 h2 hr2 h3 h4 h5
  go_enter Tryd.func21, Tryd.ntmps21
  go_upto_region 1 with fail
  generalize w.alloc (.cells #[.int .i64 8, .int .i64 n, .slice (some ⟨b, o, none⟩) 2 c] 24) = W0 at *
  generalize w.heap.size = Q at *
  go_cut [3] from 5 to 9 (fun s wx => s = .string (wordB 8) ∧ Hid (Bel W0 wx))
  case first =>
    have q0 := HQ.out.cell (i := 0) (v := .int .i64 8) rfl
    have HQC := Lib.hid (fun W (hb : Bel W0 W) => (HQ.out.keep hb).cell (i := 0) (v := .int .i64 8) rfl)
    clear HIT HB HC HR HC2 HR2
    as_aux_lemma =>
      go_region_law (first | (go_simp; go_at_call 38; refine (HW.out _).mono ?_; rintro r w2 ⟨rfl, hw2, hb2⟩; have hbX : Hid (Bel W0 w2) := Lib.hid (Bel.tr (by repeat (first | exact Bel.rfl_ _ | apply Bel.dr)) hb2); have x1 : w2.cell? ⟨W0.heap.size, 8, none⟩ = some (.string (wordB 8)) := hw2.cell (k := 8) (by omega); have qx := HQC.out _ hbX.out; clear hb2 hw2))
      all_goals go_wp2
      all_goals go_meet
      all_goals exact ⟨rfl, hbX⟩
  case rest =>
  obtain ⟨rfl, hbc⟩ := hcut
  replace HB := Lib.hid (HB.out.tr hbc.out)
  replace HQ := Lib.hid (HQ.out.keep hbc.out)
  clear hbc HW
  generalize wordB 8 = s at *
  generalize digB n = d at *
  have q1 := HQ.out.cell (i := 1) (v := .int .i64 n) rfl
  go_wp2_with fail
  refine (HIT.out _ HB.out).mono ?_
  rintro r w3 ⟨rfl, hb3⟩
  replace HB := Lib.hid (HB.out.tr hb3)
  replace HQ := Lib.hid (HQ.out.keep hb3)
  clear hb3 q1 HIT
  have q0 := HQ.out.cell (i := 0) (v := .int .i64 8) rfl
  have q1 := HQ.out.cell (i := 1) (v := .int .i64 n) rfl
  have q2 := HQ.out.cell (i := 2) (v := .slice (some ⟨b, o, none⟩) 2 c) rfl
  have e1 : (⟨#[32]⟩ : ByteArray) = blankB := rfl
  have e2 : blankB.size = 1 := rfl
  have z1 : (s ++ blankB).size = s.size + 1 := by rw [ByteArray.size_append, e2]
  have HCW := Lib.hid (fun W (hb : Bel w3 W) => And.intro ((HQ.out.keep hb).cell (i := 2) (v := .slice (some ⟨b, o, none⟩) 2 c) rfl) (And.intro (HC.out _ (HB.out.tr hb)) (HC2.out _ (HB.out.tr hb))))
  have HRW := Lib.hid (fun W (hb : Bel w3 W) => HR.out W (HB.out.tr hb))
  have HRV := Lib.hid (fun W (hb : Bel w3 W) => HR2.out W (HB.out.tr hb))
  clear z1 e1
  have e40 : (⟨#[40]⟩ : ByteArray).size = 1 := rfl
  have e32 : (⟨#[32]⟩ : ByteArray).size = 1 := rfl
  have e41 : (⟨#[41]⟩ : ByteArray).size = 1 := rfl
  have HC00 := Lib.hid (fun (W : World) => run_string_add_sum (P := Tryd.prog) (w := W) (⟨#[40]⟩) T (by simp only [e40]; omega))
  have HC10 := Lib.hid (fun (W : World) => run_string_add_sum (P := Tryd.prog) (w := W) (⟨#[40]⟩ ++ T) ⟨#[32]⟩ (by simp only [ByteArray.size_append, e40, e32]; omega))
  have HC20 := Lib.hid (fun (W : World) => run_string_add_sum (P := Tryd.prog) (w := W) ((⟨#[40]⟩ ++ T) ++ ⟨#[32]⟩) s (by simp only [ByteArray.size_append, e40, e32]; omega))
  have HC30 := Lib.hid (fun (W : World) => run_string_add_sum (P := Tryd.prog) (w := W) (((⟨#[40]⟩ ++ T) ++ ⟨#[32]⟩) ++ s) ⟨#[32]⟩ (by simp only [ByteArray.size_append, e40, e32]; omega))
  have HC40 := Lib.hid (fun (W : World) => run_string_add_sum (P := Tryd.prog) (w := W) ((((⟨#[40]⟩ ++ T) ++ ⟨#[32]⟩) ++ s) ++ ⟨#[32]⟩) T2 (by simp only [ByteArray.size_append, e40, e32]; omega))
  have HC50 := Lib.hid (fun (W : World) => run_string_add_sum (P := Tryd.prog) (w := W) (((((⟨#[40]⟩ ++ T) ++ ⟨#[32]⟩) ++ s) ++ ⟨#[32]⟩) ++ T2) ⟨#[41]⟩ (by simp only [ByteArray.size_append, e40, e32, e41]; omega))
  clear e40 e32 e41
  go_upto_region 19 with fail
  clear q0 q1 HR HR2 HC HC2
  have HS3 := Lib.hid (Bel.rfl_ w3)
  obtain ⟨-, ⟨xa, xb, xc⟩, ya, yb, yc⟩ := HCW.out _ HS3.out
  go_cut [2] from 53 to 69 (fun x wx => x = .string ((((((⟨#[40]⟩ ++ T) ++ ⟨#[32]⟩) ++ s) ++ ⟨#[32]⟩) ++ T2) ++ ⟨#[41]⟩) ∧ Hid (Bel w3 wx))
  case first =>
    clear HTX HB HQ
    as_aux_lemma =>
      have hc0 := HC00.out
      have hc1 := HC10.out
      have hc2 := HC20.out
      have hc3 := HC30.out
      have hc4 := HC40.out
      have hc5 := HC50.out
      go_region_held3 (fun w' => w'.cell? ⟨Q, 2, none⟩ = some (.slice (some ⟨b, o, none⟩) 2 c) ∧ (w'.cell? ⟨b, o, none⟩ = some (.int .i64 x0) ∧ w'.cell? ⟨b, o + 1, none⟩ = some (.int .i64 x1) ∧ w'.cell? ⟨b, o + 2, none⟩ = some (.slice X m cc)) ∧ w'.cell? ⟨b, o + 3, none⟩ = some (.int .i64 y0) ∧ w'.cell? ⟨b, o + 3 + 1, none⟩ = some (.int .i64 y1) ∧ w'.cell? ⟨b, o + 3 + 2, none⟩ = some (.slice Y mm dd))
        (first | with_reducible exact HCW.out _ HS3.out | exact HCW.out _ (by repeat (first | exact Bel.rfl_ _ | exact HS3.out | apply Bel.dr | apply Bel.al)))
        (first
          | (go_at_call 21; (with_reducible refine (HRW.out _ ?_).mono ?_); (repeat (first | exact Bel.rfl_ _ | exact HS3.out | apply Bel.dr)); rintro r w5 ⟨rfl, hb5⟩; have hbw : Bel w3 w5 := Bel.tr (by repeat (first | exact Bel.rfl_ _ | exact HS3.out | apply Bel.dr)) hb5; have HS3 := Lib.hid hbw; clear hb5 hbw)
          | (go_at_call 21; (with_reducible refine (HRV.out _ ?_).mono ?_); (repeat (first | exact Bel.rfl_ _ | exact HS3.out | apply Bel.dr)); rintro r w5 ⟨rfl, hb5⟩; have hbw : Bel w3 w5 := Bel.tr (by repeat (first | exact Bel.rfl_ _ | exact HS3.out | apply Bel.dr)) hb5; have HS3 := Lib.hid hbw; clear hb5 hbw))
      all_goals go_wp2
      all_goals go_meet
      all_goals exact ⟨rfl, HS3⟩
  case rest =>
  obtain ⟨rfl, hbc⟩ := hcut
  replace HB := Lib.hid (HB.out.tr hbc.out)
  clear HCW HRW HRV HS3 xa xb xc ya yb yc
  go_wp2
  go_ret
  exact ⟨by rw [HTX.out]; rfl, HB.out⟩

set_option maxRecDepth 20000 in
set_option maxHeartbeats 1000000 in
theorem sh9_any (n : Int) (b o c : Nat) (x0 x1 : Int) (X : Option Addr) (m cc : Nat) (y0 y1 : Int) (Y : Option Addr) (mm dd : Nat) (T T2 : ByteArray) (w : World) (hn : -9999999 ≤ n ∧ n ≤ 9999999) (ht : Tab w) (h0 : w.cell? ⟨b, o, none⟩ = some (.int .i64 x0)) (h1 : w.cell? ⟨b, o + 1, none⟩ = some (.int .i64 x1)) (h2 : w.cell? ⟨b, o + 2, none⟩ = some (.slice X m cc)) (hT : T.size ≤ 450) (hr : ∀ W, Bel w W → Calls Tryd.prog 21 #[.agg #[.int .i64 x0, .int .i64 x1, .slice X m cc]] W fun r w' => r = .returned (.string T) ∧ Bel W w') (h3 : w.cell? ⟨b, o + 3, none⟩ = some (.int .i64 y0)) (h4 : w.cell? ⟨b, o + 3 + 1, none⟩ = some (.int .i64 y1)) (h5 : w.cell? ⟨b, o + 3 + 2, none⟩ = some (.slice Y mm dd)) (hT2 : T2.size ≤ 450) (hr2 : ∀ W, Bel w W → Calls Tryd.prog 21 #[.agg #[.int .i64 y0, .int .i64 y1, .slice Y mm dd]] W fun r w' => r = .returned (.string T2) ∧ Bel W w') :
    Calls Tryd.prog 21 #[.agg #[.int .i64 9, .int .i64 n, .slice (some ⟨b, o, none⟩) 2 c]] w fun r w' => r = .returned (.string (textK 9 n [T, T2])) ∧ Bel w w' := by
  have HW := Lib.hid words_any
  have HIT := Lib.hid (fun W (hb : Bel w W) => itoa_any n W hn (ht.keep hb))
  have HQ := Lib.hid (Blk.new w 24 #[.int .i64 9, .int .i64 n, .slice (some ⟨b, o, none⟩) 2 c])
  have HB := Lib.hid ((Bel.rfl_ w).al (.cells #[.int .i64 9, .int .i64 n, .slice (some ⟨b, o, none⟩) 2 c] 24))
  have hws := wordB_size 9
  have hds := digB_size hn
  have HTX : Hid (textK 9 n [T, T2] = (((((lparB ++ T) ++ blankB) ++ wordB 9) ++ blankB) ++ T2) ++ rparB) := Lib.hid (by unfold textK; simp [])
  have HC := Lib.hid (fun W (hb : Bel w W) => And.intro (hb.cell h0) (And.intro (hb.cell h1) (hb.cell h2)))
  have HR := Lib.hid hr
  have HC2 := Lib.hid (fun W (hb : Bel w W) => And.intro (hb.cell h3) (And.intro (hb.cell h4) (hb.cell h5)))
  have HR2 := Lib.hid hr2
  clear ht hn hr h0 h1 h2 hr2 h3 h4 h5
  go_enter Tryd.func21, Tryd.ntmps21
  go_upto_region 1 with fail
  generalize w.alloc (.cells #[.int .i64 9, .int .i64 n, .slice (some ⟨b, o, none⟩) 2 c] 24) = W0 at *
  generalize w.heap.size = Q at *
  go_cut [3] from 5 to 9 (fun s wx => s = .string (wordB 9) ∧ Hid (Bel W0 wx))
  case first =>
    have q0 := HQ.out.cell (i := 0) (v := .int .i64 9) rfl
    have HQC := Lib.hid (fun W (hb : Bel W0 W) => (HQ.out.keep hb).cell (i := 0) (v := .int .i64 9) rfl)
    clear HIT HB HC HR HC2 HR2
    as_aux_lemma =>
      go_region_law (first | (go_simp; go_at_call 38; refine (HW.out _).mono ?_; rintro r w2 ⟨rfl, hw2, hb2⟩; have hbX : Hid (Bel W0 w2) := Lib.hid (Bel.tr (by repeat (first | exact Bel.rfl_ _ | apply Bel.dr)) hb2); have x1 : w2.cell? ⟨W0.heap.size, 9, none⟩ = some (.string (wordB 9)) := hw2.cell (k := 9) (by omega); have qx := HQC.out _ hbX.out; clear hb2 hw2))
      all_goals go_wp2
      all_goals go_meet
      all_goals exact ⟨rfl, hbX⟩
  case rest =>
  obtain ⟨rfl, hbc⟩ := hcut
  replace HB := Lib.hid (HB.out.tr hbc.out)
  replace HQ := Lib.hid (HQ.out.keep hbc.out)
  clear hbc HW
  generalize wordB 9 = s at *
  generalize digB n = d at *
  have q1 := HQ.out.cell (i := 1) (v := .int .i64 n) rfl
  go_wp2_with fail
  refine (HIT.out _ HB.out).mono ?_
  rintro r w3 ⟨rfl, hb3⟩
  replace HB := Lib.hid (HB.out.tr hb3)
  replace HQ := Lib.hid (HQ.out.keep hb3)
  clear hb3 q1 HIT
  have q0 := HQ.out.cell (i := 0) (v := .int .i64 9) rfl
  have q1 := HQ.out.cell (i := 1) (v := .int .i64 n) rfl
  have q2 := HQ.out.cell (i := 2) (v := .slice (some ⟨b, o, none⟩) 2 c) rfl
  have e1 : (⟨#[32]⟩ : ByteArray) = blankB := rfl
  have e2 : blankB.size = 1 := rfl
  have z1 : (s ++ blankB).size = s.size + 1 := by rw [ByteArray.size_append, e2]
  have HCW := Lib.hid (fun W (hb : Bel w3 W) => And.intro ((HQ.out.keep hb).cell (i := 2) (v := .slice (some ⟨b, o, none⟩) 2 c) rfl) (And.intro (HC.out _ (HB.out.tr hb)) (HC2.out _ (HB.out.tr hb))))
  have HRW := Lib.hid (fun W (hb : Bel w3 W) => HR.out W (HB.out.tr hb))
  have HRV := Lib.hid (fun W (hb : Bel w3 W) => HR2.out W (HB.out.tr hb))
  clear z1 e1
  have e40 : (⟨#[40]⟩ : ByteArray).size = 1 := rfl
  have e32 : (⟨#[32]⟩ : ByteArray).size = 1 := rfl
  have e41 : (⟨#[41]⟩ : ByteArray).size = 1 := rfl
  have HC00 := Lib.hid (fun (W : World) => run_string_add_sum (P := Tryd.prog) (w := W) (⟨#[40]⟩) T (by simp only [e40]; omega))
  have HC10 := Lib.hid (fun (W : World) => run_string_add_sum (P := Tryd.prog) (w := W) (⟨#[40]⟩ ++ T) ⟨#[32]⟩ (by simp only [ByteArray.size_append, e40, e32]; omega))
  have HC20 := Lib.hid (fun (W : World) => run_string_add_sum (P := Tryd.prog) (w := W) ((⟨#[40]⟩ ++ T) ++ ⟨#[32]⟩) s (by simp only [ByteArray.size_append, e40, e32]; omega))
  have HC30 := Lib.hid (fun (W : World) => run_string_add_sum (P := Tryd.prog) (w := W) (((⟨#[40]⟩ ++ T) ++ ⟨#[32]⟩) ++ s) ⟨#[32]⟩ (by simp only [ByteArray.size_append, e40, e32]; omega))
  have HC40 := Lib.hid (fun (W : World) => run_string_add_sum (P := Tryd.prog) (w := W) ((((⟨#[40]⟩ ++ T) ++ ⟨#[32]⟩) ++ s) ++ ⟨#[32]⟩) T2 (by simp only [ByteArray.size_append, e40, e32]; omega))
  have HC50 := Lib.hid (fun (W : World) => run_string_add_sum (P := Tryd.prog) (w := W) (((((⟨#[40]⟩ ++ T) ++ ⟨#[32]⟩) ++ s) ++ ⟨#[32]⟩) ++ T2) ⟨#[41]⟩ (by simp only [ByteArray.size_append, e40, e32, e41]; omega))
  clear e40 e32 e41
  go_upto_region 19 with fail
  clear q0 q1 HR HR2 HC HC2
  have HS3 := Lib.hid (Bel.rfl_ w3)
  obtain ⟨-, ⟨xa, xb, xc⟩, ya, yb, yc⟩ := HCW.out _ HS3.out
  go_cut [2] from 53 to 69 (fun x wx => x = .string ((((((⟨#[40]⟩ ++ T) ++ ⟨#[32]⟩) ++ s) ++ ⟨#[32]⟩) ++ T2) ++ ⟨#[41]⟩) ∧ Hid (Bel w3 wx))
  case first =>
    clear HTX HB HQ
    as_aux_lemma =>
      have hc0 := HC00.out
      have hc1 := HC10.out
      have hc2 := HC20.out
      have hc3 := HC30.out
      have hc4 := HC40.out
      have hc5 := HC50.out
      go_region_held3 (fun w' => w'.cell? ⟨Q, 2, none⟩ = some (.slice (some ⟨b, o, none⟩) 2 c) ∧ (w'.cell? ⟨b, o, none⟩ = some (.int .i64 x0) ∧ w'.cell? ⟨b, o + 1, none⟩ = some (.int .i64 x1) ∧ w'.cell? ⟨b, o + 2, none⟩ = some (.slice X m cc)) ∧ w'.cell? ⟨b, o + 3, none⟩ = some (.int .i64 y0) ∧ w'.cell? ⟨b, o + 3 + 1, none⟩ = some (.int .i64 y1) ∧ w'.cell? ⟨b, o + 3 + 2, none⟩ = some (.slice Y mm dd))
        (first | with_reducible exact HCW.out _ HS3.out | exact HCW.out _ (by repeat (first | exact Bel.rfl_ _ | exact HS3.out | apply Bel.dr | apply Bel.al)))
        (first
          | (go_at_call 21; (with_reducible refine (HRW.out _ ?_).mono ?_); (repeat (first | exact Bel.rfl_ _ | exact HS3.out | apply Bel.dr)); rintro r w5 ⟨rfl, hb5⟩; have hbw : Bel w3 w5 := Bel.tr (by repeat (first | exact Bel.rfl_ _ | exact HS3.out | apply Bel.dr)) hb5; have HS3 := Lib.hid hbw; clear hb5 hbw)
          | (go_at_call 21; (with_reducible refine (HRV.out _ ?_).mono ?_); (repeat (first | exact Bel.rfl_ _ | exact HS3.out | apply Bel.dr)); rintro r w5 ⟨rfl, hb5⟩; have hbw : Bel w3 w5 := Bel.tr (by repeat (first | exact Bel.rfl_ _ | exact HS3.out | apply Bel.dr)) hb5; have HS3 := Lib.hid hbw; clear hb5 hbw))
      all_goals go_wp2
      all_goals go_meet
      all_goals exact ⟨rfl, HS3⟩
  case rest =>
  obtain ⟨rfl, hbc⟩ := hcut
  replace HB := Lib.hid (HB.out.tr hbc.out)
  clear HCW HRW HRV HS3 xa xb xc ya yb yc
  go_wp2
  go_ret
  exact ⟨by rw [HTX.out]; rfl, HB.out⟩

set_option maxRecDepth 20000 in
set_option maxHeartbeats 1000000 in
theorem sh13_any (n : Int) (b o c : Nat) (x0 x1 : Int) (X : Option Addr) (m cc : Nat) (y0 y1 : Int) (Y : Option Addr) (mm dd : Nat) (T T2 : ByteArray) (w : World) (hn : -9999999 ≤ n ∧ n ≤ 9999999) (ht : Tab w) (h0 : w.cell? ⟨b, o, none⟩ = some (.int .i64 x0)) (h1 : w.cell? ⟨b, o + 1, none⟩ = some (.int .i64 x1)) (h2 : w.cell? ⟨b, o + 2, none⟩ = some (.slice X m cc)) (hT : T.size ≤ 450) (hr : ∀ W, Bel w W → Calls Tryd.prog 21 #[.agg #[.int .i64 x0, .int .i64 x1, .slice X m cc]] W fun r w' => r = .returned (.string T) ∧ Bel W w') (h3 : w.cell? ⟨b, o + 3, none⟩ = some (.int .i64 y0)) (h4 : w.cell? ⟨b, o + 3 + 1, none⟩ = some (.int .i64 y1)) (h5 : w.cell? ⟨b, o + 3 + 2, none⟩ = some (.slice Y mm dd)) (hT2 : T2.size ≤ 450) (hr2 : ∀ W, Bel w W → Calls Tryd.prog 21 #[.agg #[.int .i64 y0, .int .i64 y1, .slice Y mm dd]] W fun r w' => r = .returned (.string T2) ∧ Bel W w') :
    Calls Tryd.prog 21 #[.agg #[.int .i64 13, .int .i64 n, .slice (some ⟨b, o, none⟩) 2 c]] w fun r w' => r = .returned (.string (textK 13 n [T, T2])) ∧ Bel w w' := by
  have HW := Lib.hid words_any
  have HIT := Lib.hid (fun W (hb : Bel w W) => itoa_any n W hn (ht.keep hb))
  have HQ := Lib.hid (Blk.new w 24 #[.int .i64 13, .int .i64 n, .slice (some ⟨b, o, none⟩) 2 c])
  have HB := Lib.hid ((Bel.rfl_ w).al (.cells #[.int .i64 13, .int .i64 n, .slice (some ⟨b, o, none⟩) 2 c] 24))
  have hws := wordB_size 13
  have hds := digB_size hn
  have HTX : Hid (textK 13 n [T, T2] = (((((lparB ++ T) ++ blankB) ++ wordB 13) ++ blankB) ++ T2) ++ rparB) := Lib.hid (by unfold textK; simp [])
  have HC := Lib.hid (fun W (hb : Bel w W) => And.intro (hb.cell h0) (And.intro (hb.cell h1) (hb.cell h2)))
  have HR := Lib.hid hr
  have HC2 := Lib.hid (fun W (hb : Bel w W) => And.intro (hb.cell h3) (And.intro (hb.cell h4) (hb.cell h5)))
  have HR2 := Lib.hid hr2
  clear ht hn hr h0 h1 h2 hr2 h3 h4 h5
  go_enter Tryd.func21, Tryd.ntmps21
  go_upto_region 1 with fail
  generalize w.alloc (.cells #[.int .i64 13, .int .i64 n, .slice (some ⟨b, o, none⟩) 2 c] 24) = W0 at *
  generalize w.heap.size = Q at *
  go_cut [3] from 5 to 9 (fun s wx => s = .string (wordB 13) ∧ Hid (Bel W0 wx))
  case first =>
    have q0 := HQ.out.cell (i := 0) (v := .int .i64 13) rfl
    have HQC := Lib.hid (fun W (hb : Bel W0 W) => (HQ.out.keep hb).cell (i := 0) (v := .int .i64 13) rfl)
    clear HIT HB HC HR HC2 HR2
    as_aux_lemma =>
      go_region_law (first | (go_simp; go_at_call 38; refine (HW.out _).mono ?_; rintro r w2 ⟨rfl, hw2, hb2⟩; have hbX : Hid (Bel W0 w2) := Lib.hid (Bel.tr (by repeat (first | exact Bel.rfl_ _ | apply Bel.dr)) hb2); have x1 : w2.cell? ⟨W0.heap.size, 13, none⟩ = some (.string (wordB 13)) := hw2.cell (k := 13) (by omega); have qx := HQC.out _ hbX.out; clear hb2 hw2))
      all_goals go_wp2
      all_goals go_meet
      all_goals exact ⟨rfl, hbX⟩
  case rest =>
  obtain ⟨rfl, hbc⟩ := hcut
  replace HB := Lib.hid (HB.out.tr hbc.out)
  replace HQ := Lib.hid (HQ.out.keep hbc.out)
  clear hbc HW
  generalize wordB 13 = s at *
  generalize digB n = d at *
  have q1 := HQ.out.cell (i := 1) (v := .int .i64 n) rfl
  go_wp2_with fail
  refine (HIT.out _ HB.out).mono ?_
  rintro r w3 ⟨rfl, hb3⟩
  replace HB := Lib.hid (HB.out.tr hb3)
  replace HQ := Lib.hid (HQ.out.keep hb3)
  clear hb3 q1 HIT
  have q0 := HQ.out.cell (i := 0) (v := .int .i64 13) rfl
  have q1 := HQ.out.cell (i := 1) (v := .int .i64 n) rfl
  have q2 := HQ.out.cell (i := 2) (v := .slice (some ⟨b, o, none⟩) 2 c) rfl
  have e1 : (⟨#[32]⟩ : ByteArray) = blankB := rfl
  have e2 : blankB.size = 1 := rfl
  have z1 : (s ++ blankB).size = s.size + 1 := by rw [ByteArray.size_append, e2]
  have HCW := Lib.hid (fun W (hb : Bel w3 W) => And.intro ((HQ.out.keep hb).cell (i := 2) (v := .slice (some ⟨b, o, none⟩) 2 c) rfl) (And.intro (HC.out _ (HB.out.tr hb)) (HC2.out _ (HB.out.tr hb))))
  have HRW := Lib.hid (fun W (hb : Bel w3 W) => HR.out W (HB.out.tr hb))
  have HRV := Lib.hid (fun W (hb : Bel w3 W) => HR2.out W (HB.out.tr hb))
  clear z1 e1
  have e40 : (⟨#[40]⟩ : ByteArray).size = 1 := rfl
  have e32 : (⟨#[32]⟩ : ByteArray).size = 1 := rfl
  have e41 : (⟨#[41]⟩ : ByteArray).size = 1 := rfl
  have HC00 := Lib.hid (fun (W : World) => run_string_add_sum (P := Tryd.prog) (w := W) (⟨#[40]⟩) T (by simp only [e40]; omega))
  have HC10 := Lib.hid (fun (W : World) => run_string_add_sum (P := Tryd.prog) (w := W) (⟨#[40]⟩ ++ T) ⟨#[32]⟩ (by simp only [ByteArray.size_append, e40, e32]; omega))
  have HC20 := Lib.hid (fun (W : World) => run_string_add_sum (P := Tryd.prog) (w := W) ((⟨#[40]⟩ ++ T) ++ ⟨#[32]⟩) s (by simp only [ByteArray.size_append, e40, e32]; omega))
  have HC30 := Lib.hid (fun (W : World) => run_string_add_sum (P := Tryd.prog) (w := W) (((⟨#[40]⟩ ++ T) ++ ⟨#[32]⟩) ++ s) ⟨#[32]⟩ (by simp only [ByteArray.size_append, e40, e32]; omega))
  have HC40 := Lib.hid (fun (W : World) => run_string_add_sum (P := Tryd.prog) (w := W) ((((⟨#[40]⟩ ++ T) ++ ⟨#[32]⟩) ++ s) ++ ⟨#[32]⟩) T2 (by simp only [ByteArray.size_append, e40, e32]; omega))
  have HC50 := Lib.hid (fun (W : World) => run_string_add_sum (P := Tryd.prog) (w := W) (((((⟨#[40]⟩ ++ T) ++ ⟨#[32]⟩) ++ s) ++ ⟨#[32]⟩) ++ T2) ⟨#[41]⟩ (by simp only [ByteArray.size_append, e40, e32, e41]; omega))
  clear e40 e32 e41
  go_upto_region 19 with fail
  clear q0 q1 HR HR2 HC HC2
  have HS3 := Lib.hid (Bel.rfl_ w3)
  obtain ⟨-, ⟨xa, xb, xc⟩, ya, yb, yc⟩ := HCW.out _ HS3.out
  go_cut [2] from 53 to 69 (fun x wx => x = .string ((((((⟨#[40]⟩ ++ T) ++ ⟨#[32]⟩) ++ s) ++ ⟨#[32]⟩) ++ T2) ++ ⟨#[41]⟩) ∧ Hid (Bel w3 wx))
  case first =>
    clear HTX HB HQ
    as_aux_lemma =>
      have hc0 := HC00.out
      have hc1 := HC10.out
      have hc2 := HC20.out
      have hc3 := HC30.out
      have hc4 := HC40.out
      have hc5 := HC50.out
      go_region_held3 (fun w' => w'.cell? ⟨Q, 2, none⟩ = some (.slice (some ⟨b, o, none⟩) 2 c) ∧ (w'.cell? ⟨b, o, none⟩ = some (.int .i64 x0) ∧ w'.cell? ⟨b, o + 1, none⟩ = some (.int .i64 x1) ∧ w'.cell? ⟨b, o + 2, none⟩ = some (.slice X m cc)) ∧ w'.cell? ⟨b, o + 3, none⟩ = some (.int .i64 y0) ∧ w'.cell? ⟨b, o + 3 + 1, none⟩ = some (.int .i64 y1) ∧ w'.cell? ⟨b, o + 3 + 2, none⟩ = some (.slice Y mm dd))
        (first | with_reducible exact HCW.out _ HS3.out | exact HCW.out _ (by repeat (first | exact Bel.rfl_ _ | exact HS3.out | apply Bel.dr | apply Bel.al)))
        (first
          | (go_at_call 21; (with_reducible refine (HRW.out _ ?_).mono ?_); (repeat (first | exact Bel.rfl_ _ | exact HS3.out | apply Bel.dr)); rintro r w5 ⟨rfl, hb5⟩; have hbw : Bel w3 w5 := Bel.tr (by repeat (first | exact Bel.rfl_ _ | exact HS3.out | apply Bel.dr)) hb5; have HS3 := Lib.hid hbw; clear hb5 hbw)
          | (go_at_call 21; (with_reducible refine (HRV.out _ ?_).mono ?_); (repeat (first | exact Bel.rfl_ _ | exact HS3.out | apply Bel.dr)); rintro r w5 ⟨rfl, hb5⟩; have hbw : Bel w3 w5 := Bel.tr (by repeat (first | exact Bel.rfl_ _ | exact HS3.out | apply Bel.dr)) hb5; have HS3 := Lib.hid hbw; clear hb5 hbw))
      all_goals go_wp2
      all_goals go_meet
      all_goals exact ⟨rfl, HS3⟩
  case rest =>
  obtain ⟨rfl, hbc⟩ := hcut
  replace HB := Lib.hid (HB.out.tr hbc.out)
  clear HCW HRW HRV HS3 xa xb xc ya yb yc
  go_wp2
  go_ret
  exact ⟨by rw [HTX.out]; rfl, HB.out⟩

end Go.Proofs.YtegknpffiaeohaaDoor
