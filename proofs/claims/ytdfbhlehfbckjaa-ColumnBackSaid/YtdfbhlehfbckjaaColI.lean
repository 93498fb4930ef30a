/- The reader of numbers. Each lemma states its own conditions. -/
import Derived.Test.YtdfbhlehfbckjaaColH
namespace Go.Proofs.Ytdfbhlehfbckjaa
open Go.RowKit

theorem natGo_lt {s : ByteArray} {a b : Nat} : ∀ (f i n t : Nat), n < t → natGo s f i n t = some (a, b) → a < t * 128 ^ f ∧ i < b ∧ b ≤ s.size
  | 0, _, _, _, _, h => by cases h
  | f + 1, i, n, t, hn, h => by
    by_cases hi : i < s.size
    · by_cases hb : s[i].toNat < 128
      · rw [natGo_lo hi hb] at h
        split at h
        · cases h
        · injection h with h
          injection h with h1 h2
          have h3 : s[i].toNat * t ≤ 127 * t := Nat.mul_le_mul_right t (by omega)
          have h4 : t * 128 ≤ t * 128 ^ (f + 1) := by
            rw [Nat.pow_succ]
            exact Nat.mul_le_mul_left t (Nat.le_mul_of_pos_left 128 (Nat.pow_pos (by omega)))
          omega
      · rw [natGo_hi hi hb] at h
        have hlt := s[i].toNat_lt
        have h3 : (s[i].toNat - 128) * t ≤ 127 * t := Nat.mul_le_mul_right t (by omega)
        have := natGo_lt f (i + 1) (n + (s[i].toNat - 128) * t) (t * 128) (by omega) h
        rw [Nat.mul_assoc, ← Nat.pow_succ'] at this
        exact ⟨this.1, by omega, this.2.2⟩
    · rw [natGo_end hi] at h
      cases h
theorem natAt_lt {s : ByteArray} {p n q : Nat} (h : natAt s p = some (n, q)) : n < 4398046511104 ∧ p < q ∧ q ≤ s.size := natGo_lt 6 p 0 1 (by omega) h

def unzig (n : Nat) : Int := if n % 2 = 1 then -((n / 2 : Nat) : Int) - 1 else ((n / 2 : Nat) : Int)
def RNum (s : ByteArray) (p g : Nat) (r : Ending) (w' : World) : Prop := ∃ (v : Int) (q : Nat) (bad : Bool), r = .returned (.int .i64 v) ∧ Rd w' g s q bad ∧ q ≤ s.size ∧
  match natAt s p with
  | some (n', to) => bad = false ∧ v = unzig n' ∧ q = to
  | none => bad = true ∧ v = 0

theorem rnum_any (s : ByteArray) (p g : Nat) (w : World) (hs : ok64 s.size) (hp : p ≤ s.size) (h : Rd w g s p false) :
    Calls Try.prog 36 #[.pointer (some ⟨g, 0, none⟩)] w fun r w' => RNum s p g r w' ∧ w.grownBy w' (some g) := by
  have H := Lib.hid (rnat_any s p g w hs hp h)
  clear h
  go_enter Try.func36, Try.ntmps36
  go_wp2_with fail
  refine H.out.mono ?_
  rintro e w1 ⟨⟨n, q, bad, rfl, hr, hq, hn⟩, hg⟩
  have HG := Lib.hid hg; have HR := Lib.hid hr; clear hg hr
  have HU : ∀ v : Int, (match natAt s p with | some (n', to) => bad = false ∧ v = unzig n' ∧ q = to | none => bad = true ∧ v = 0) → RNum s p g (.returned (.int .i64 v)) w1 := fun v hv => ⟨v, q, bad, rfl, HR.out, hq, hv⟩
  have HU := Lib.hid HU
  cases hN : natAt s p with
  | none =>
    rw [hN] at hn HU
    obtain ⟨hb, hn0⟩ := hn
    have HB := Lib.hid hb; clear hb
    subst hn0
    have HN := Lib.hid hN; clear hN
    go_wp2
    go_ret
    exact ⟨HU.out _ ⟨HB.out, rfl⟩, HG.out⟩
  | some a =>
    obtain ⟨m, to⟩ := a
    rw [hN] at hn HU
    obtain ⟨hb, hn0, hto⟩ := hn
    have hm := (natAt_lt hN).1
    have HB := Lib.hid hb; have HT := Lib.hid hto; have HN := Lib.hid hN; clear hb hto hN
    subst hn0
    by_cases h2 : m % 2 = 1
    · have hd : ((m : Int) % 2 == 1) = true := by simp; omega
      have hq1 : ((m : Int) + 1).tdiv 2 = ((m / 2 : Nat) : Int) + 1 := by
        rw [Int.tdiv_eq_ediv_of_nonneg (by omega)]
        omega
      have hq2 : -9223372036854775808 ≤ ((m / 2 : Nat) : Int) ∧ ((m / 2 : Nat) : Int) ≤ 4398046511104 := by omega
      have HE : Hid (unzig m = -(((m / 2 : Nat) : Int) + 1)) := Lib.hid (by unfold unzig; rw [if_pos h2]; omega)
      generalize ((m / 2 : Nat) : Int) = y at hq1 hq2 HE
      obtain ⟨hq2, hq3⟩ := hq2
      go_wp2
      go_ret
      refine ⟨HU.out _ ⟨HB.out, ?_, HT.out⟩, HG.out⟩
      rw [HE.out]
    · have hd : ((m : Int) % 2 == 1) = false := by simp; omega
      go_wp2
      go_ret
      refine ⟨HU.out _ ⟨HB.out, ?_, HT.out⟩, HG.out⟩
      unfold unzig
      rw [if_neg h2]
      first | rfl | omega

end Go.Proofs.Ytdfbhlehfbckjaa
