/- The reader of naturals. Each lemma states its own conditions. -/
import Derived.Test.YtdfbhlehfbckjaaColG
namespace Go.Proofs.Ytdfbhlehfbckjaa
open Go.RowKit

def Rd (w : World) (g : Nat) (s : ByteArray) (p : Nat) (bad : Bool) : Prop := Blk w g 73 #[.string s, .int .i64 p, .bool bad]
def RNat (s : ByteArray) (p g : Nat) (r : Ending) (w' : World) : Prop := ∃ (n : Int) (q : Nat) (bad : Bool), r = .returned (.int .i64 n) ∧ Rd w' g s q bad ∧ q ≤ s.size ∧
  match natAt s p with
  | some (n', to) => bad = false ∧ n = n' ∧ q = to
  | none => bad = true ∧ n = 0

theorem Rd.go {w : World} {g : Nat} {s : ByteArray} {p : Nat} {bad : Bool} (h : Rd w g s p bad) : w.cell? ⟨g, 0, none⟩ = some (.string s) ∧ w.cell? ⟨g, 1, none⟩ = some (.int .i64 p) ∧ w.cell? ⟨g, 2, none⟩ = some (.bool bad) ∧
    w.frozen? ⟨g, 1, none⟩ = false ∧ w.frozen? ⟨g, 2, none⟩ = false := ⟨h.cell rfl, h.cell rfl, h.cell rfl, h.frozen 1, h.frozen 2⟩
theorem Rd.drew {w : World} {g : Nat} {s : ByteArray} {p : Nat} {bad : Bool} (h : Rd w g s p bad) : Rd w.drew g s p bad := h
theorem Rd.at_ {w : World} {g : Nat} {s : ByteArray} {p q : Nat} {bad : Bool} (h : Rd w g s p bad) (hq : (p : Int) + 1 = q) : Rd (w.setCell ⟨g, 1, none⟩ (.int .i64 (p + 1))) g s q bad := by
  have := h.set_ 1 (.int .i64 (p + 1))
  rw [hq] at this ⊢
  exact this
theorem Rd.bad {w : World} {g : Nat} {s : ByteArray} {p : Nat} {bad : Bool} (h : Rd w g s p bad) : Rd (w.setCell ⟨g, 2, none⟩ (.bool true)) g s p true := h.set_ 2 (.bool true)

theorem Rd.drN {w : World} {g : Nat} {s : ByteArray} {p : Nat} {bad : Bool} (h : Rd w g s p bad) (n : Nat) : Rd (w.drewN n) g s p bad := Blk.keep h ((Bel.rfl_ w).drN n)
theorem grown_drN {w wr : World} {r : Option Nat} (h : w.grownBy wr r) (n : Nat) : w.grownBy (wr.drewN n) r := h.trans (((Bel.rfl_ wr).drN n).grown r)
theorem grown_setB {w wr : World} {g : Nat} (h : w.grownBy wr (some g)) (i : Nat) (v : Value) : w.grownBy (wr.setCell ⟨g, i, none⟩ v) (some g) := h.trans (grown_set wr g i v)

set_option maxRecDepth 40000 in
set_option maxHeartbeats 2000000 in
theorem rnat_any (s : ByteArray) (p g : Nat) (w : World) (hs : ok64 s.size) (hp : p ≤ s.size) (h : Rd w g s p false) :
    Calls Try.prog 35 #[.pointer (some ⟨g, 0, none⟩)] w fun r w' => RNat s p g r w' ∧ w.grownBy w' (some g) := by
  unfold ok64 at hs
  go_enter Try.func35, Try.ntmps35
  go_wp2
  go_loopw [3, 4] (fun n t wr => ∃ x k m : Nat, p ≤ x ∧ x ≤ p + 6 ∧ x ≤ s.size ∧ n = .int .i64 k ∧ t = .int .i64 m ∧ Hid (m = 128 ^ (x - p)) ∧ k < m ∧ Hid (natGo s (6 - (x - p)) x k m = natAt s p) ∧ Hid (Rd wr g s x false) ∧ Hid (w.grownBy wr (some g))) (fun _ t _ => 4398046511104 - (intOf t).toNat)
  case atStart => exact ⟨p, 0, 1, by omega, by omega, hp, rfl, rfl, (by unfold Hid; simp), by omega, (by unfold Hid; simp [natAt]), h, World.grownBy.refl _ _⟩
  case round =>
    obtain ⟨x, k, m, hx, hx6, hxs, rfl, rfl, HM, hk, hN, HR, HG⟩ := hrel
    obtain ⟨x0, x1, x2, y1, y2⟩ := HR.out.go
    clear h
    by_cases h6 : x < p + 6
    · obtain ⟨f1, f2, f3, f4⟩ := pow_fact (j := x - p) (by omega)
      rw [← HM.out] at f1 f2 f3 f4
      have F3 := Lib.hid f3; have F4 := Lib.hid f4; clear f3 f4
      have ht : decide ((m : Int) < 4398046511104) = true := decide_eq_true (by omega)
      obtain ⟨f, hf⟩ : ∃ f, 6 - (x - p) = f + 1 := ⟨5 - (x - p), by omega⟩
      rw [hf] at hN
      have HF := Lib.hid hf; clear hf
      by_cases hlt : x < s.size
      · obtain ⟨b, hb⟩ : ∃ b, s[x].toNat = b := ⟨_, rfl⟩
        have hb2 : b < 256 := by rw [← hb]; exact s[x].toNat_lt
        have q1 : (b : Int) * m ≤ 8761733283840 := Int.le_trans (Int.mul_le_mul_of_nonneg_right (c := (m : Int)) (show (b : Int) ≤ 255 by omega) (by omega)) (by omega)
        have q0 : 0 ≤ (b : Int) * m := Int.mul_nonneg (by omega) (by omega)
        have hd : decide (x < s.size) = true := decide_eq_true hlt
        by_cases hlo : b < 128
        · have HL := Lib.hid (natGo_lo (f := f) (n := k) (t := m) hlt (by omega))
          rw [hb] at HL
          rcases Nat.eq_zero_or_pos b with hb0 | hb0
          · rcases Nat.eq_or_lt_of_le hx with hxp | hxp
            · have hm1 := F3.out (by omega)
              have HXP := Lib.hid hxp; clear hxp
              have hbz : s[x].toNat = 0 := by omega
              have HB0 := Lib.hid hb0; clear hb0 hb
              go_wp2
              go_quiet (fail)
              go_wp2
              go_quiet (fail)
              go_wp2
              go_ret
              refine ⟨⟨_, x + 1, false, rfl, (HR.out.drN _).at_ (by omega), by omega, ?_⟩, grown_setB (grown_drN HG.out _) 1 _⟩
              rw [← hN.out, HL.out, if_neg (by have := HB0.out; omega), HB0.out]
              exact ⟨rfl, by simp, rfl⟩
            · have hm1 := F4.out (by omega)
              have hbz : s[x].toNat = 0 := by omega
              have HB0 := Lib.hid hb0; clear hb0 hb
              go_wp2
              go_quiet (fail)
              clear ht
              go_wp2
              go_quiet (fail)
              go_wp2
              go_ret
              refine ⟨⟨_, x + 1, true, rfl, ((HR.out.drN _).at_ (by omega)).bad, by omega, ?_⟩, grown_setB (grown_setB (grown_drN HG.out _) 1 _) 2 _⟩
              rw [← hN.out, HL.out, if_pos ⟨HB0.out, by omega⟩]
              exact ⟨rfl, rfl⟩
          · go_wp2
            go_quiet (fail)
            clear ht
            go_wp2
            go_quiet (fail)
            go_wp2
            go_ret
            refine ⟨⟨_, x + 1, false, rfl, (HR.out.drN _).at_ (by omega), by omega, ?_⟩, grown_setB (grown_drN HG.out _) 1 _⟩
            rw [← hN.out, HL.out, if_neg (by omega)]
            exact ⟨rfl, by simp, rfl⟩
        · have q3 : ((b : Int) - 128) * m ≤ 8761733283840 := Int.le_trans (Int.mul_le_mul_of_nonneg_right (c := (m : Int)) (show (b : Int) - 128 ≤ 255 by omega) (by omega)) (by omega)
          have q2 : 0 ≤ ((b : Int) - 128) * m := Int.mul_nonneg (by omega) (by omega)
          have q4 : (b - 128) * m ≤ 127 * m := Nat.mul_le_mul_right m (by omega)
          have Q4 := Lib.hid q4; clear q4
          have HL := Lib.hid (natGo_hi (f := f) (n := k) (t := m) hlt (by omega))
          rw [hb] at HL
          have HC : Hid ((k : Int) + ((b : Int) - 128) * m = ((k + (b - 128) * m : Nat) : Int)) := Lib.hid (by rw [Int.natCast_add, Int.natCast_mul, Int.ofNat_sub (by omega)]; rfl)
          have HK := Lib.hid hk
          go_wp2
          go_quiet (fail)
          clear ht
          go_wp2
          go_quiet (fail)
          go_wp2
          go_roundw
          case rel =>
            refine ⟨x + 1, k + (b - 128) * m, m * 128, by omega, by omega, by omega, by rw [HC.out], by go_num, ?_, ?_, ?_, (HR.out.drN _).at_ (by omega), grown_setB (grown_drN HG.out _) 1 _⟩
            · unfold Hid
              rw [show x + 1 - p = (x - p) + 1 by omega, Nat.pow_succ, ← HM.out]
            · have := Q4.out; have := HK.out; omega
            · unfold Hid
              rw [show 6 - (x + 1 - p) = f by have := HF.out; omega, ← hN.out, HL.out]
          case measure => simp [intOf]; omega
      · have hd : decide (x < s.size) = false := decide_eq_false hlt
        go_wp2
        go_quiet (fail)
        go_wp2
        go_ret
        refine ⟨⟨_, x, true, rfl, (HR.out.drN _).bad, by omega, ?_⟩, grown_setB (grown_drN HG.out _) 2 _⟩
        rw [← hN.out, natGo_end hlt]
        exact ⟨rfl, rfl⟩
    · have h0 : 6 - (x - p) = 0 := by omega
      rw [h0] at hN
      have hm6 : m = 4398046511104 := by
        have := HM.out
        rw [show x - p = 6 by omega] at this
        exact this
      have ht : decide ((m : Int) < 4398046511104) = false := by rw [hm6]; rfl
      by_cases hlt : x < s.size
      · have hd : decide (x < s.size) = true := decide_eq_true hlt
        clear HM hk hm6
        go_wp2
        go_quiet (fail)
        go_wp2
        go_ret
        refine ⟨⟨_, x, true, rfl, (HR.out.drN _).bad, by omega, ?_⟩, grown_setB (grown_drN HG.out _) 2 _⟩
        rw [← hN.out]
        exact ⟨rfl, rfl⟩
      · have hd : decide (x < s.size) = false := decide_eq_false hlt
        clear HM hk hm6
        go_wp2
        go_quiet (fail)
        go_wp2
        go_ret
        refine ⟨⟨_, x, true, rfl, (HR.out.drN _).bad, by omega, ?_⟩, grown_setB (grown_drN HG.out _) 2 _⟩
        rw [← hN.out]
        exact ⟨rfl, rfl⟩

end Go.Proofs.Ytdfbhlehfbckjaa
