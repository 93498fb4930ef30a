/- slices.Equal of names and of variables: walked. Each lemma states its own conditions. -/
import Derived.Test.YtmfjlcpjemccmaaGreatDoorSms31
import Derived.Test.YtmfjlcpjemccmaaGreatDoorSms41
namespace Go.Proofs.YtmfjlcpjemccmaaGreatDoor
open Go.RowKit
theorem list_drop {α : Type} [DecidableEq α] {xs ys : List α} {k : Nat} {x y : α} (hx : xs[k]? = some x) (hy : ys[k]? = some y) : decide (xs.drop k = ys.drop k) = (decide (x = y) && decide (xs.drop (k + 1) = ys.drop (k + 1))) := by
 obtain ⟨h1, rfl⟩ := List.getElem?_eq_some_iff.1 hx
 obtain ⟨h2, rfl⟩ := List.getElem?_eq_some_iff.1 hy
 rw [List.drop_eq_getElem_cons h1, List.drop_eq_getElem_cons h2]
 simp only [List.cons.injEq, Bool.decide_and]
theorem tv_eq (x y : TV) : decide (x = y) = ((x.name.toList == y.name.toList) && (x.size == y.size)) := by
 obtain ⟨a, b⟩ := x
 obtain ⟨c, d⟩ := y
 rw [str_eq, Bool.eq_iff_iff]
 simp
set_option maxRecDepth 20000 in
set_option maxHeartbeats 4000000 in
theorem equalS_any (xs ys : List ByteArray) (va vb : Value) (w : World) (ha : Sl nmR w va xs) (hb : Sl nmR w vb ys) :
  Calls Tryz.prog 84 #[va, vb] w fun r w' => r = .returned (.bool (decide (xs = ys))) ∧ Bel w w' := by
 have HSA := Hi_ ha
 have HSB := Hi_ hb
 obtain ⟨A, c, rfl, hc, hm, -⟩ := ha
 obtain ⟨B, d, rfl, hd, hm2, -⟩ := hb
 have hl1 : xs.length ≤ 9223372036854775807 := by have := hm.1; simp only [maxLen] at this; omega
 have hl2 : ys.length ≤ 9223372036854775807 := by have := hm2.1; simp only [maxLen] at this; omega
 clear hm hm2 hc hd
 by_cases hlen : xs.length = ys.length
 rotate_left
 ·have HT : Hid (decide (xs = ys) = false) := Hi_ (decide_eq_false fun e => hlen (by rw [e]))
  have d0 : ((xs.length : Int) != ys.length) = true := by simp; omega
  clear hlen
  go_enter Tryz.func84, Tryz.ntmps84
  go_wp2
  go_ret
  exact ⟨by rw [HT.out]; rfl, Bel.rfl_ w⟩
 ·have d0 : ((xs.length : Int) != ys.length) = false := by simp; omega
  have HT : Hid (decide (xs.drop 0 = ys.drop 0) = decide (xs = ys)) := Hi_ rfl
  have HRF := Hi_ (Bel.rfl_ w)
  have HLE := Hi_ hlen
  generalize decide (xs = ys) = T at *
  clear hlen
  go_enter Tryz.func84, Tryz.ntmps84
  go_wp2
  go_loopw [13] (fun t wr => ∃ j : Nat, j ≤ xs.length ∧ t = .int .i64 j ∧ Hid (decide (xs.drop j = ys.drop j) = T) ∧ Hid (Bel w wr)) (fun t _ => xs.length - (intOf t).toNat)
  case atStart => exact ⟨0, by omega, rfl, HT, HRF⟩
  case round =>
   obtain ⟨j, hj, rfl, HS, HB⟩ := hrel
   obtain ⟨WO, hWO⟩ : ∃ W, W = wr := ⟨_, rfl⟩
   subst hWO
   clear HT HRF
   by_cases hlt : j < xs.length
   ·have hdd : decide ((j : Int) < xs.length) = true := decide_eq_true (by omega)
    have hlt2 : j < ys.length := by have := HLE.out; omega
    obtain ⟨x, hx⟩ : ∃ x, xs[j]? = some x := ⟨_, List.getElem?_eq_getElem hlt⟩
    obtain ⟨y, hy⟩ : ∃ y, ys[j]? = some y := ⟨_, List.getElem?_eq_getElem hlt2⟩
    obtain ⟨b, o, rfl, hA⟩ := (HSA.out.keep HB.out).lies (by omega)
    obtain ⟨b', o', rfl, hB⟩ := (HSB.out.keep HB.out).lies (by omega)
    obtain ⟨hca, -⟩ := nmR.cell hA hx
    obtain ⟨hca', -⟩ := nmR.cell hB hy
    have HCA := Hi_ hca
    have HCA' := Hi_ hca'
    obtain ⟨CE, c1⟩ : ∃ CE, (x.toList == y.toList) = CE := ⟨_, rfl⟩
    have HXE : Hid (decide (x = y) = CE) := Hi_ (by rw [← c1, str_eq])
    clear hca hca'
    have HD : Hid ((decide (x = y) && decide (xs.drop (j + 1) = ys.drop (j + 1))) = T) := Hi_ (by rw [← list_drop hx hy]; exact HS.out)
    have i0 : (0 : Int) ≤ j := by omega
    have i1 : (j : Int) < xs.length := by omega
    have i2 : (j : Int) < ys.length := by omega
    clear hx hy HS hA hB
    go_upto_region 6 with fail
    refine wp_region_held_drew (S := fun W => Bel WO W) (by kernel_rfl) ((Bel.rfl_ WO).dr) (fun hS => ?_)
    refine rt_t (i := 0) (some 16) (.slice (some ⟨b, o, none⟩) xs.length c) rfl hS (fun W _ => by kernel_rfl) ?_
    refine rt_t (i := 1) (some 17) (.int .i64 j) rfl hS (fun W _ => by kernel_rfl) ?_
    refine rt_t (i := 2) (some 18) (.pointer (some ⟨b, o + j, none⟩)) rfl hS (fun W _ => by go_simp) ?_
    refine rt_t (i := 3) (some 19) (.string x) rfl hS (fun W hb => rl_str_ (hb.cell HCA.out)) ?_
    refine rt_t (i := 4) (some 20) (.slice (some ⟨b', o', none⟩) ys.length d) rfl hS (fun W _ => by kernel_rfl) ?_
    refine rt_t (i := 5) (some 21) (.int .i64 j) rfl hS (fun W _ => by kernel_rfl) ?_
    refine rt_t (i := 6) (some 22) (.pointer (some ⟨b', o' + j, none⟩)) rfl hS (fun W _ => by go_simp) ?_
    refine rt_t (i := 7) (some 23) (.string y) rfl hS (fun W hb => rl_str_ (hb.cell HCA'.out)) ?_
    refine rt_t (i := 8) (some 24) (.bool (!CE)) rfl hS (fun W _ => rb_neqS rfl (by kernel_rfl) (by kernel_rfl) c1) ?_
    refine wpAnyH_done (by kernel_rfl) ?_ _
    try simp only [Act.put, lA, lB, lC]
    replace HB := Hi_ (HB.out.tr hS)
    cases CE with
    | true =>
     have HD2 : Hid (decide (xs.drop (j + 1) = ys.drop (j + 1)) = T) := Hi_ (by rw [← HD.out, HXE.out, Bool.true_and])
     go_wp2
     go_roundw
     case rel => exact ⟨j + 1, by omega, by go_num, HD2, HB⟩
     case measure => simp [intOf]; omega
    | false =>
     have HD2 : Hid (false = T) := Hi_ (by rw [← HD.out, HXE.out, Bool.false_and])
     go_wp2
     go_ret
     exact ⟨by rw [← HD2.out]; rfl, HB.out⟩
   ·obtain rfl : j = xs.length := by omega
    have hdd : decide ((xs.length : Int) < xs.length) = false := decide_eq_false (by omega)
    have HR : Hid (true = T) := Hi_ (by rw [← HS.out, List.drop_eq_nil_of_le (Nat.le_refl _), List.drop_eq_nil_of_le (by rw [HLE.out]; exact Nat.le_refl _)]; rfl)
    go_wp2
    go_ret
    exact ⟨by rw [← HR.out]; rfl, HB.out⟩
set_option maxRecDepth 20000 in
set_option maxHeartbeats 4000000 in
theorem equalV_any (xs ys : List TV) (va vb : Value) (w : World) (ha : Sl tvR w va xs) (hb : Sl tvR w vb ys) :
  Calls Tryz.prog 85 #[va, vb] w fun r w' => r = .returned (.bool (decide (xs = ys))) ∧ Bel w w' := by
 have HSA := Hi_ ha
 have HSB := Hi_ hb
 obtain ⟨A, c, rfl, hc, hm, -⟩ := ha
 obtain ⟨B, d, rfl, hd, hm2, -⟩ := hb
 have hl1 : xs.length ≤ 9223372036854775807 := by have := hm.1; simp only [maxLen] at this; omega
 have hl2 : ys.length ≤ 9223372036854775807 := by have := hm2.1; simp only [maxLen] at this; omega
 clear hm hm2 hc hd
 by_cases hlen : xs.length = ys.length
 rotate_left
 ·have HT : Hid (decide (xs = ys) = false) := Hi_ (decide_eq_false fun e => hlen (by rw [e]))
  have d0 : ((xs.length : Int) != ys.length) = true := by simp; omega
  clear hlen
  go_enter Tryz.func85, Tryz.ntmps85
  go_wp2
  go_ret
  exact ⟨by rw [HT.out]; rfl, Bel.rfl_ w⟩
 ·have d0 : ((xs.length : Int) != ys.length) = false := by simp; omega
  have HT : Hid (decide (xs.drop 0 = ys.drop 0) = decide (xs = ys)) := Hi_ rfl
  have HRF := Hi_ (Bel.rfl_ w)
  have HLE := Hi_ hlen
  generalize decide (xs = ys) = T at *
  clear hlen
  go_enter Tryz.func85, Tryz.ntmps85
  go_wp2
  go_loopw [13] (fun t wr => ∃ j : Nat, j ≤ xs.length ∧ t = .int .i64 j ∧ Hid (decide (xs.drop j = ys.drop j) = T) ∧ Hid (Bel w wr)) (fun t _ => xs.length - (intOf t).toNat)
  case atStart => exact ⟨0, by omega, rfl, HT, HRF⟩
  case round =>
   obtain ⟨j, hj, rfl, HS, HB⟩ := hrel
   obtain ⟨WO, hWO⟩ : ∃ W, W = wr := ⟨_, rfl⟩
   subst hWO
   clear HT HRF
   by_cases hlt : j < xs.length
   ·have hdd : decide ((j : Int) < xs.length) = true := decide_eq_true (by omega)
    have hlt2 : j < ys.length := by have := HLE.out; omega
    obtain ⟨x, hx⟩ : ∃ x, xs[j]? = some x := ⟨_, List.getElem?_eq_getElem hlt⟩
    obtain ⟨y, hy⟩ : ∃ y, ys[j]? = some y := ⟨_, List.getElem?_eq_getElem hlt2⟩
    obtain ⟨b, o, rfl, hA⟩ := (HSA.out.keep HB.out).lies (by omega)
    obtain ⟨b', o', rfl, hB⟩ := (HSB.out.keep HB.out).lies (by omega)
    obtain ⟨cs, ⟨rfl, -⟩, hca⟩ := hA j x hx
    obtain ⟨cs', ⟨rfl, -⟩, hca'⟩ := hB j y hy
    have HCA : Hid (CellsAt WO b (o + j * 2) [.string x.name, .int .i64 x.size]) := Hi_ hca
    have HCA' : Hid (CellsAt WO b' (o' + j * 2) [.string y.name, .int .i64 y.size]) := Hi_ hca'
    obtain ⟨C1, c1⟩ : ∃ CE, (x.name.toList == y.name.toList) = CE := ⟨_, rfl⟩
    obtain ⟨C2, c2⟩ : ∃ CE, (x.size == y.size) = CE := ⟨_, rfl⟩
    have HXE : Hid (decide (x = y) = (C1 && C2)) := Hi_ (by rw [← c1, ← c2]; exact tv_eq x y)
    clear hca hca'
    have HD : Hid ((decide (x = y) && decide (xs.drop (j + 1) = ys.drop (j + 1))) = T) := Hi_ (by rw [← list_drop hx hy]; exact HS.out)
    have i0 : (0 : Int) ≤ j := by omega
    have i1 : (j : Int) < xs.length := by omega
    have i2 : (j : Int) < ys.length := by omega
    clear hx hy HS hA hB
    go_upto_region 6 with fail
    refine wp_region_held_drew (S := fun W => Bel WO W) (by kernel_rfl) ((Bel.rfl_ WO).dr) (fun hS => ?_)
    refine rt_t (i := 0) (some 16) (.slice (some ⟨b, o, none⟩) xs.length c) rfl hS (fun W _ => by kernel_rfl) ?_
    refine rt_t (i := 1) (some 17) (.int .i64 j) rfl hS (fun W _ => by kernel_rfl) ?_
    refine rt_t (i := 2) (some 18) (.pointer (some ⟨b, o + j * 2, none⟩)) rfl hS (fun W _ => by go_simp) ?_
    refine rt_t (i := 3) (some 19) (.agg #[.string x.name, .int .i64 x.size]) rfl hS (fun W hb => run_loadRow 55 (.tmp 18) rfl elTV b (o + j * 2) (by kernel_rfl) [.string x.name, .int .i64 x.size] (HCA.out.keep hb) rfl (by kernel_rfl)) ?_
    refine rt_t (i := 4) (some 20) (.slice (some ⟨b', o', none⟩) ys.length d) rfl hS (fun W _ => by kernel_rfl) ?_
    refine rt_t (i := 5) (some 21) (.int .i64 j) rfl hS (fun W _ => by kernel_rfl) ?_
    refine rt_t (i := 6) (some 22) (.pointer (some ⟨b', o' + j * 2, none⟩)) rfl hS (fun W _ => by go_simp) ?_
    refine rt_t (i := 7) (some 23) (.agg #[.string y.name, .int .i64 y.size]) rfl hS (fun W hb => run_loadRow 55 (.tmp 22) rfl elTV b' (o' + j * 2) (by kernel_rfl) [.string y.name, .int .i64 y.size] (HCA'.out.keep hb) rfl (by kernel_rfl)) ?_
    refine rt_t (i := 8) (some 24) (.bool (!(C1 && C2))) rfl hS (fun W _ => rb_neqV (c := C1) (d := C2) rfl (by kernel_rfl) (by kernel_rfl) c1 c2) ?_
    refine wpAnyH_done (by kernel_rfl) ?_ _
    try simp only [Act.put, lA, lB, lC]
    replace HB := Hi_ (HB.out.tr hS)
    clear c1 c2
    generalize (C1 && C2) = CE at *
    cases CE with
    | true =>
     have HD2 : Hid (decide (xs.drop (j + 1) = ys.drop (j + 1)) = T) := Hi_ (by rw [← HD.out, HXE.out, Bool.true_and])
     go_wp2
     go_roundw
     case rel => exact ⟨j + 1, by omega, by go_num, HD2, HB⟩
     case measure => simp [intOf]; omega
    | false =>
     have HD2 : Hid (false = T) := Hi_ (by rw [← HD.out, HXE.out, Bool.false_and])
     go_wp2
     go_ret
     exact ⟨by rw [← HD2.out]; rfl, HB.out⟩
   ·obtain rfl : j = xs.length := by omega
    have hdd : decide ((xs.length : Int) < xs.length) = false := decide_eq_false (by omega)
    have HR : Hid (true = T) := Hi_ (by rw [← HS.out, List.drop_eq_nil_of_le (Nat.le_refl _), List.drop_eq_nil_of_le (by rw [HLE.out]; exact Nat.le_refl _)]; rfl)
    go_wp2
    go_ret
    exact ⟨by rw [← HR.out]; rfl, HB.out⟩
end Go.Proofs.YtmfjlcpjemccmaaGreatDoor
