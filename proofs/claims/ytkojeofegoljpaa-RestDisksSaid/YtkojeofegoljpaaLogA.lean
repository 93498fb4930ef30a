/- Numbers and sums of a sector: walked. Each lemma states its own conditions. -/
import Derived.Test.YtkojeofegoljpaaLogP
namespace Go.Proofs.Ytkojeofegoljpaa
open Go.RowKit

set_option maxRecDepth 20000 in
theorem sum_any (s : ByteArray) (w : World) (hs : s.size ≤ 1000000) :
    Calls Try.prog 76 #[.string s] w fun r w' => r = .returned (.int .i64 (sumOf s)) ∧ w' = w := by
  go_enter Try.func76, Try.ntmps76
  go_wp2
  go_loopw [3, 7] (fun n t wr => ∃ (x : Nat) (k : Int), x ≤ s.size ∧ n = .int .u32 k ∧ 0 ≤ k ∧ k < 4294967296 ∧ t = .int .i64 x ∧ Hid (sumGo k ((bytesOf s).drop x) = sumOf s) ∧ wr = w) (fun _ t _ => s.size - (intOf t).toNat)
  case atStart => exact ⟨0, 2166136261, by omega, rfl, by omega, by omega, rfl, Lib.hid rfl, rfl⟩
  case round =>
    obtain ⟨x, k, hx, rfl, hk0, hk, rfl, HS, rfl⟩ := hrel
    by_cases hlt : x < s.size
    · have hd : decide (x < s.size) = true := decide_eq_true hlt
      have HB := Lib.hid (bt_eq hlt)
      have HD := Lib.hid (sum_drop (n := k) hlt)
      go_wp2
      refine ⟨⟨x + 1, sumStep k (bt s x), by omega, ?_, (sumStep_in _ _).1, (sumStep_in _ _).2, rfl, Lib.hid (by rw [← HD.out]; exact HS.out), trivial⟩, ?_⟩
      · rw [HB.out]; rfl
      · simp only [intOf]; omega
    · have HE := Lib.hid (sum_end (s := s) (n := k) (i := x) (by omega))
      go_wp2
      go_ret
      exact ⟨by rw [← HS.out, HE.out]; rfl, rfl⟩

set_option maxRecDepth 20000 in
theorem number_any (s : ByteArray) (n : Nat) (w : World) (hs : s.size = 32) (hn : n < 8) :
    Calls Try.prog 85 #[.string s, .int .i64 n] w fun r w' => r = .returned (.int .i64 (numAt s n)) ∧ Bel w w' := by
  obtain ⟨q, hq⟩ : ∃ q : Nat, (4 : Int) * n = q := ⟨4 * n, by omega⟩
  obtain ⟨p1, hp1⟩ : ∃ p : Nat, (q : Int) + 1 = p := ⟨q + 1, by omega⟩
  obtain ⟨p2, hp2⟩ : ∃ p : Nat, (q : Int) + 2 = p := ⟨q + 2, by omega⟩
  obtain ⟨p3, hp3⟩ : ∃ p : Nat, (q : Int) + 3 = p := ⟨q + 3, by omega⟩
  have l0 : q < s.size := by omega
  have l1 : p1 < s.size := by omega
  have l2 : p2 < s.size := by omega
  have l3 : p3 < s.size := by omega
  have w0 : IntKind.i64.wrap (q : Int) = q := by rw [IntKind.wrap_i64]; omega
  have w1 : IntKind.i64.wrap (p1 : Int) = p1 := by rw [IntKind.wrap_i64]; omega
  have w2 : IntKind.i64.wrap (p2 : Int) = p2 := by rw [IntKind.wrap_i64]; omega
  have w3 : IntKind.i64.wrap (p3 : Int) = p3 := by rw [IntKind.wrap_i64]; omega
  have HQ : Hid (num4 (bt s q) (bt s p1) (bt s p2) (bt s p3) = numAt s n) := Lib.hid (by
    obtain rfl : q = 4 * n := by omega
    obtain rfl : p1 = 4 * n + 1 := by omega
    obtain rfl : p2 = 4 * n + 2 := by omega
    obtain rfl : p3 = 4 * n + 3 := by omega
    rfl)
  have HN := Lib.hid (num4_eq (bt_lt s q) (bt_lt s p1) (bt_lt s p2) (bt_lt s p3))
  have HB0 := Lib.hid (bt_eq l0)
  have HB1 := Lib.hid (bt_eq l1)
  have HB2 := Lib.hid (bt_eq l2)
  have HB3 := Lib.hid (bt_eq l3)
  clear hs hn
  go_enter Try.func85, Try.ntmps85
  go_wp2
  have d0 : decide (q < s.size) = true := decide_eq_true l0
  have d1 : decide (p1 < s.size) = true := decide_eq_true l1
  have d2 : decide (p2 < s.size) = true := decide_eq_true l2
  have d3 : decide (p3 < s.size) = true := decide_eq_true l3
  go_quiet (fail)
  go_wp2
  go_ret
  refine ⟨?_, (Bel.rfl_ w).drN _⟩
  rw [← HQ.out, ← HN.out, ← HB0.out, ← HB1.out, ← HB2.out, ← HB3.out]
  rfl

end Go.Proofs.Ytkojeofegoljpaa
