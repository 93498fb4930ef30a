/- Naturals read from bytes: in plain words, and the document's way. Each lemma states its own conditions. -/
import Derived.Test.YtdfbhlehfbckjaaColF
namespace Go.Proofs.Ytdfbhlehfbckjaa
open Go.RowKit

def natGo (s : ByteArray) : Nat → Nat → Nat → Nat → Option (Nat × Nat)
  | 0, _, _, _ => none
  | f + 1, i, n, t => if h : i < s.size then (if s[i].toNat < 128 then (if s[i].toNat = 0 ∧ 1 < t then none else some (n + s[i].toNat * t, i + 1)) else natGo s f (i + 1) (n + (s[i].toNat - 128) * t) (t * 128)) else none
def natAt (s : ByteArray) (i : Nat) : Option (Nat × Nat) := natGo s 6 i 0 1
theorem natGo_end {s : ByteArray} {f i n t : Nat} (h : ¬ i < s.size) : natGo s f i n t = none := by
  cases f with
  | zero => rfl
  | succ f => rw [natGo, dif_neg h]
theorem natGo_lo {s : ByteArray} {f i n t : Nat} (h : i < s.size) (hb : s[i].toNat < 128) : natGo s (f + 1) i n t = if s[i].toNat = 0 ∧ 1 < t then none else some (n + s[i].toNat * t, i + 1) := by
  rw [natGo, dif_pos h, if_pos hb]
theorem natGo_hi {s : ByteArray} {f i n t : Nat} (h : i < s.size) (hb : ¬ s[i].toNat < 128) : natGo s (f + 1) i n t = natGo s f (i + 1) (n + (s[i].toNat - 128) * t) (t * 128) := by
  rw [natGo, dif_pos h, if_neg hb]
theorem pow_fact {j : Nat} (h : j < 6) : 1 ≤ 128 ^ j ∧ 128 ^ j ≤ 34359738368 ∧ (j = 0 → 128 ^ j = 1) ∧ (0 < j → 128 ≤ 128 ^ j) := by
  match j, h with
  | 0, _ | 1, _ | 2, _ | 3, _ | 4, _ | 5, _ => decide

def natOk (s : ByteArray) (i : Nat) (n to : Int) (ok : Bool) : Prop := match natAt s i with
  | some (n', to') => ok = true ∧ n = n' ∧ to = to'
  | none => ok = false

def NatRes (s : ByteArray) (p : Nat) (r : Ending) : Prop := ∃ n to ok, r = .returned (.tuple #[.int .i64 n, .int .i64 to, .bool ok]) ∧ natOk s p n to ok

set_option maxRecDepth 4000 in
set_option maxHeartbeats 600000 in
theorem naturalAt_ref (s : ByteArray) (p : Nat) (w : World) (hs : ok64 s.size) (hp : p ≤ s.size) :
    Calls Try.prog 41 #[.string s, .int .i64 p] w fun r w' => NatRes s p r ∧ w' = w := by
  unfold ok64 at hs
  go_enter Try.func41, Try.ntmps41
  go_wp2
  go_loop [7, 8, 9] (fun n t i => ∃ x k m : Nat, p ≤ x ∧ x ≤ p + 6 ∧ n = .int .i64 k ∧ t = .int .i64 m ∧ i = .int .i64 x ∧ Hid (m = 128 ^ (x - p)) ∧ k < m ∧ Hid (natGo s (6 - (x - p)) x k m = natAt s p)) (fun _ _ i => p + 6 - (intOf i).toNat)
  case atStart => exact ⟨p, 0, 1, by omega, by omega, rfl, rfl, rfl, (by unfold Hid; simp), by omega, (by unfold Hid; simp [natAt])⟩
  case round =>
    obtain ⟨x, k, m, hx, hx6, rfl, rfl, rfl, HM, hk, hN⟩ := hrel
    by_cases h6 : x < p + 6
    · obtain ⟨f1, f2, f3, f4⟩ := pow_fact (j := x - p) (by omega)
      rw [← HM.out] at f1 f2 f3 f4
      have F3 := Lib.hid f3; have F4 := Lib.hid f4; clear f3 f4
      obtain ⟨f, hf⟩ : ∃ f, 6 - (x - p) = f + 1 := ⟨5 - (x - p), by omega⟩
      rw [hf] at hN
      have HF := Lib.hid hf; clear hf
      by_cases hlt : x < s.size
      · obtain ⟨b, hb⟩ : ∃ b, s[x].toNat = b := ⟨_, rfl⟩
        have hb2 : b < 256 := by rw [← hb]; exact s[x].toNat_lt
        have q1 : (b : Int) * m ≤ 8761733283840 := Int.le_trans (Int.mul_le_mul_of_nonneg_right (c := (m : Int)) (show (b : Int) ≤ 255 by omega) (by omega)) (by omega)
        have q0 : 0 ≤ (b : Int) * m := Int.mul_nonneg (by omega) (by omega)
        by_cases hlo : b < 128
        · have HL := Lib.hid (natGo_lo (f := f) (n := k) (t := m) hlt (by omega))
          rw [hb] at HL
          have hO : ∀ n to ok, (match natGo s (f + 1) x k m with | some (n', to') => ok = true ∧ n = (n' : Int) ∧ to = (to' : Int) | none => ok = false) → natOk s p n to ok := fun n to ok h => by unfold natOk; rw [← hN.out]; exact h
          have HO := Lib.hid hO; clear hO
          rcases Nat.eq_zero_or_pos b with hb0 | hb0
          · rcases Nat.eq_or_lt_of_le hx with hxp | hxp
            · have hm1 := F3.out (by omega)
              have hd : ((x : Int) == (p : Int)) = true := by simp; omega
              have HXP := Lib.hid hxp; clear hxp
              have HB0 := Lib.hid hb0; clear hb0
              have hbz : s[x].toNat = 0 := by rw [hb]; exact HB0.out
              clear hb
              go_wp2
              refine bodyPost_ret (v := .tuple #[.int .i64 (k), .int .i64 (x + 1), .bool true]) (by simp [results, Try.results41, go_sem]) rfl ⟨⟨_, _, _, rfl, ?_⟩, rfl⟩
              refine HO.out _ _ _ ?_
              rw [HL.out, if_neg (by rw [hm1]; omega), HB0.out]
              exact ⟨rfl, by simp, by simp⟩
            · have hm1 := Lib.hid (F4.out (by omega))
              have hd : ((x : Int) == (p : Int)) = false := by simp; omega
              have hbz : s[x].toNat = 0 := by omega
              have HB0 := Lib.hid hb0; clear hb0 hb
              go_wp2
              refine bodyPost_ret (v := .tuple #[.int .i64 (k), .int .i64 (x + 1), .bool false]) (by simp [results, Try.results41, go_sem]) rfl ⟨⟨_, _, _, rfl, ?_⟩, rfl⟩
              refine HO.out _ _ _ ?_
              have := hm1.out
              rw [HL.out, if_pos ⟨HB0.out, by omega⟩]
          · go_wp2
            refine bodyPost_ret (v := .tuple #[.int .i64 (k + b * m), .int .i64 (x + 1), .bool true]) (by simp [results, Try.results41, go_sem]) rfl ⟨⟨_, _, _, rfl, ?_⟩, rfl⟩
            refine HO.out _ _ _ ?_
            rw [HL.out, if_neg (by omega)]
            exact ⟨rfl, by simp, by simp⟩
        · have q3 : ((b : Int) - 128) * m ≤ 8761733283840 := Int.le_trans (Int.mul_le_mul_of_nonneg_right (c := (m : Int)) (show (b : Int) - 128 ≤ 255 by omega) (by omega)) (by omega)
          have q2 : 0 ≤ ((b : Int) - 128) * m := Int.mul_nonneg (by omega) (by omega)
          have q4 : (b - 128) * m ≤ 127 * m := Nat.mul_le_mul_right m (by omega)
          have Q4 := Lib.hid q4; clear q4
          have HL := Lib.hid (natGo_hi (f := f) (n := k) (t := m) hlt (by omega))
          rw [hb] at HL
          have HC : Hid ((k : Int) + ((b : Int) - 128) * m = ((k + (b - 128) * m : Nat) : Int)) := Lib.hid (by rw [Int.natCast_add, Int.natCast_mul, Int.ofNat_sub (by omega)]; rfl)
          have HK := Lib.hid hk
          go_wp2
          go_round
          case rel =>
            refine ⟨x + 1, k + (b - 128) * m, m * 128, by omega, by omega, by rw [HC.out], by go_num, by go_num, ?_, ?_, ?_⟩
            · unfold Hid
              rw [show x + 1 - p = (x - p) + 1 by omega, Nat.pow_succ, ← HM.out]
            · have := Q4.out; have := HK.out; omega
            · unfold Hid
              rw [show 6 - (x + 1 - p) = f by have := HF.out; omega, ← hN.out, HL.out]
          case measure => simp [intOf]; omega
      · go_wp2
        refine bodyPost_ret (v := .tuple #[.int .i64 (0), .int .i64 (0), .bool false]) (by simp [results, Try.results41, go_sem]) rfl ⟨⟨_, _, _, rfl, ?_⟩, rfl⟩
        unfold natOk
        rw [← hN.out, natGo_end hlt]
    · have h0 : 6 - (x - p) = 0 := by omega
      rw [h0] at hN
      have hd : decide ((x : Int) < (p : Int) + 6) = false := by simp; omega
      by_cases hlt : x < s.size
      · go_wp2
        refine bodyPost_ret (v := .tuple #[.int .i64 (0), .int .i64 (0), .bool false]) (by simp [results, Try.results41, go_sem]) rfl ⟨⟨_, _, _, rfl, ?_⟩, rfl⟩
        unfold natOk
        rw [← hN.out]
        rfl
      · go_wp2
        refine bodyPost_ret (v := .tuple #[.int .i64 (0), .int .i64 (0), .bool false]) (by simp [results, Try.results41, go_sem]) rfl ⟨⟨_, _, _, rfl, ?_⟩, rfl⟩
        unfold natOk
        rw [← hN.out]
        rfl

end Go.Proofs.Ytdfbhlehfbckjaa
