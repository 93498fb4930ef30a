/- The document's text of a query: its words and numbers walked. Each lemma states its own conditions. -/
import Derived.Test.YtegknpffiaeohaaDoorShoC
import Derived.Laws.BytesArg
import Derived.Laws.Concat
namespace Go.Proofs.YtegknpffiaeohaaDoor
open Go.RowKit

def decB (u : Nat) : ByteArray := ⟨(Lib.decDigits u).toArray⟩
theorem decB_big {u : Nat} (h : ¬ u < 10) : decB u = decB (u / 10) ++ decB (u % 10) := by
  have h2 : Lib.decDigits (u % 10) = [UInt8.ofNat (48 + u % 10)] := Lib.decDigits_one (by omega)
  have h1 : Lib.decDigits u = Lib.decDigits (u / 10) ++ [UInt8.ofNat (48 + u % 10)] := by rw [Lib.decDigits, dif_neg h]
  unfold decB
  rw [h1, h2]
  apply ByteArray.ext
  simp
theorem decB_size {u : Nat} (h : u < 10000000) : (decB u).size ≤ 7 := by
  have : (decB u).size = Lib.nDigits u := by simp [decB, ByteArray.size, Lib.decDigits_length]
  rw [this]
  exact nDigits_le h
theorem convD (w : World) (x : Int) : (convert 68 9 (.slice (some ⟨w.heap.size, 0, none⟩) 1 1)).run Tryd.prog (w.alloc (.cells #[.int .u8 x] 5)) = .ok (.string (strOfNums [x])) (w.alloc (.cells #[.int .u8 x] 5)) := by
  refine run_convert_bytes_arg (P := Tryd.prog) _ 68 5 Tryd.underlying68 Tryd.underlying5 _ 0 1 1 [x] rfl ?_ _ Tryd.underlying9
  intro i hi
  obtain rfl : i = 0 := by omega
  rw [cell_of_row _ w.heap.size 0 #[.int .u8 x] 5 (0, 0) (heap_alloc_new w _)]
  rfl

set_option maxRecDepth 20000 in
theorem digits_small (u : Nat) (h : u < 10) (w : World) : Calls Tryd.prog 26 #[.int .i64 u] w fun r w' => r = .returned (.string (decB u)) ∧ Bel w w' := by
  have hC := convD
  have e : decB u = strOfNums [48 + (u : Int)] := by
    have e1 : u = 0 ∨ u = 1 ∨ u = 2 ∨ u = 3 ∨ u = 4 ∨ u = 5 ∨ u = 6 ∨ u = 7 ∨ u = 8 ∨ u = 9 := by omega
    unfold decB
    rw [Lib.decDigits_one h]
    rcases e1 with rfl | rfl | rfl | rfl | rfl | rfl | rfl | rfl | rfl | rfl <;> rfl
  have HE := Lib.hid e
  have d0 : decide ((u : Int) < 0) = false := decide_eq_false (by omega)
  have d1 : decide ((u : Int) < 10) = true := decide_eq_true (by omega)
  clear e
  go_enter Tryd.func26, Tryd.ntmps26
  go_wp2
  go_ret
  exact ⟨by rw [HE.out]; rfl, (Bel.rfl_ w).al _⟩
set_option maxRecDepth 20000 in
theorem digits_nat (u : Nat) : u < 10000000 → ∀ w, Calls Tryd.prog 26 #[.int .i64 u] w fun r w' => r = .returned (.string (decB u)) ∧ Bel w w' := by
  induction u using Nat.strongRecOn with
  | _ u ih =>
    intro hu w
    by_cases h : u < 10
    · exact digits_small u h w
    · have H1 := Lib.hid (ih (u / 10) (by omega) (by omega))
      have H2 := Lib.hid (digits_small (u % 10) (by omega))
      have HE := Lib.hid (decB_big h)
      have s1 := decB_size (u := u / 10) (by omega)
      have s2 := decB_size (u := u % 10) (by omega)
      have d0 : decide ((u : Int) < 0) = false := decide_eq_false (by omega)
      have d1 : decide ((u : Int) < 10) = false := decide_eq_false (by omega)
      have hq : (u : Int).tdiv 10 = ((u / 10 : Nat) : Int) := by rw [Int.tdiv_eq_ediv_of_nonneg (by omega)]; omega
      have hr : (u : Int).tmod 10 = ((u % 10 : Nat) : Int) := by rw [Int.tmod_eq_emod_of_nonneg (by omega)]; omega
      have b1 : u / 10 < 10000000 := by omega
      have b2 : u % 10 < 10 := by omega
      generalize decB u = S at *
      generalize decB (u / 10) = A at *
      generalize decB (u % 10) = B at *
      generalize u / 10 = x at *
      generalize u % 10 = y at *
      clear ih
      go_enter Tryd.func26, Tryd.ntmps26
      go_wp2_with fail
      refine (H1.out _).mono ?_
      rintro r w1 ⟨rfl, hb1⟩
      have HB := Lib.hid hb1
      clear hb1
      go_wp2_with fail
      refine (H2.out _).mono ?_
      rintro r w2 ⟨rfl, hb2⟩
      replace HB := Lib.hid (HB.out.tr hb2)
      clear hb2
      go_wp2
      go_ret
      exact ⟨by rw [HE.out]; rfl, HB.out⟩
theorem digB_neg (u : Nat) (h : 0 < u) : digB (-(u : Int)) = ⟨#[45]⟩ ++ decB u := by
  unfold digB Lib.itoa decB
  rw [if_pos (by omega), Int.natAbs_neg, Int.natAbs_natCast]
  apply ByteArray.ext
  simp
theorem digB_nat (u : Nat) : digB (u : Int) = decB u := by
  unfold digB Lib.itoa decB
  rw [if_neg (by omega), Int.toNat_natCast]
set_option maxRecDepth 20000 in
theorem digits_any (n : Int) (w : World) (hn : -9999999 ≤ n ∧ n ≤ 9999999) : Calls Tryd.prog 26 #[.int .i64 n] w fun r w' => r = .returned (.string (digB n)) ∧ Bel w w' := by
  by_cases h0 : 0 ≤ n
  · obtain ⟨u, rfl⟩ : ∃ u : Nat, n = u := ⟨n.toNat, by omega⟩
    rw [digB_nat]
    exact digits_nat u (by omega) w
  · obtain ⟨u, rfl⟩ : ∃ u : Nat, n = -(u : Int) := ⟨(-n).toNat, by omega⟩
    have HN := Lib.hid (digB_neg u (by omega))
    have d0 : decide (-(u : Int) < 0) = true := decide_eq_true (by omega)
    have hm : (⟨#[45]⟩ : ByteArray).size = 1 := rfl
    have hnn : - -(u : Int) = u := by omega
    generalize digB (-(u : Int)) = S at *
    by_cases h : u < 10
    · have H1 := Lib.hid (digits_nat u (by omega))
      have s1 := decB_size (u := u) (by omega)
      have d1 : decide (-10 < -(u : Int)) = true := decide_eq_true (by omega)
      generalize decB u = A at *
      go_enter Tryd.func26, Tryd.ntmps26
      go_wp2_with fail
      refine (H1.out _).mono ?_
      rintro r w1 ⟨rfl, hb1⟩
      have HB := Lib.hid hb1
      clear hb1
      go_wp2
      go_ret
      exact ⟨by rw [HN.out]; rfl, HB.out⟩
    · have H1 := Lib.hid (digits_nat (u / 10) (by omega))
      have H2 := Lib.hid (digits_small (u % 10) (by omega))
      have HE : Hid (S = (⟨#[45]⟩ ++ decB (u / 10)) ++ decB (u % 10)) := Lib.hid (by rw [HN.out, decB_big h, ByteArray.append_assoc])
      have s1 := decB_size (u := u / 10) (by omega)
      have s2 := decB_size (u := u % 10) (by omega)
      have s3 : (⟨#[45]⟩ ++ decB (u / 10) : ByteArray).size = 1 + (decB (u / 10)).size := by rw [ByteArray.size_append]; rfl
      have d1 : decide (-10 < -(u : Int)) = false := decide_eq_false (by omega)
      have hq : (-(u : Int)).tdiv 10 = -((u / 10 : Nat) : Int) := by rw [Int.neg_tdiv, Int.tdiv_eq_ediv_of_nonneg (by omega)]; omega
      have hr : (-(u : Int)).tmod 10 = -((u % 10 : Nat) : Int) := by rw [Int.neg_tmod, Int.tmod_eq_emod_of_nonneg (by omega)]; omega
      have b1 : u / 10 < 10000000 := by omega
      have b2 : u % 10 < 10 := by omega
      have n1 : - -((u / 10 : Nat) : Int) = ((u / 10 : Nat) : Int) := by omega
      have n2 : - -((u % 10 : Nat) : Int) = ((u % 10 : Nat) : Int) := by omega
      clear HN
      generalize decB (u / 10) = A at *
      generalize decB (u % 10) = B at *
      generalize u / 10 = x at *
      generalize u % 10 = y at *
      go_enter Tryd.func26, Tryd.ntmps26
      go_wp2_with fail
      refine (H1.out _).mono ?_
      rintro r w1 ⟨rfl, hb1⟩
      have HB := Lib.hid hb1
      clear hb1
      go_wp2_with fail
      refine (H2.out _).mono ?_
      rintro r w2 ⟨rfl, hb2⟩
      replace HB := Lib.hid (HB.out.tr hb2)
      clear hb2
      go_wp2
      go_ret
      exact ⟨by rw [HE.out]; rfl, HB.out⟩

set_option maxRecDepth 20000 in
set_option maxHeartbeats 2000000 in
theorem askWord_any (k : Nat) (h : 1 ≤ k ∧ k ≤ 14) (w : World) : Calls Tryd.prog 24 #[.int .i64 k] w fun r w' => r = .returned (.string (wordB k)) ∧ Bel w w' := by
  have hk : k = 1 ∨ k = 2 ∨ k = 3 ∨ k = 4 ∨ k = 5 ∨ k = 6 ∨ k = 7 ∨ k = 8 ∨ k = 9 ∨ k = 10 ∨ k = 11 ∨ k = 12 ∨ k = 13 ∨ k = 14 := by omega
  have i0 : (0 : Int) ≤ k := by omega
  have i1 : (k : Int) < 15 := by omega
  have i2 : k < 15 := by omega
  have HK := Lib.hid hk
  clear h hk
  go_enter Tryd.func24, Tryd.ntmps24
  go_wp2
  go_ret
  refine ⟨?_, (Bel.rfl_ w).al _⟩
  clear i0 i1
  rcases HK.out with rfl | rfl | rfl | rfl | rfl | rfl | rfl | rfl | rfl | rfl | rfl | rfl | rfl | rfl <;> rfl
end Go.Proofs.YtegknpffiaeohaaDoor
