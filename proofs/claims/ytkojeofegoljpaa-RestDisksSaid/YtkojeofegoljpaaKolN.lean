/- Naturals read from bytes: in plain words, and the document's way. The reader of naturals. The reader of numbers. What is decoded, in plain words. The program's decoding computes what is decoded. What is encoded is decoded as it was: plain words. ColumnTells, ColumnBack: the walks. Each lemma states its own conditions. -/
import Derived.Test.YtkojeofegoljpaaKolF
namespace Go.Proofs.Ytkojeofegoljpaa
open Go.RowKit

def natGo (s : ByteArray) : Nat → Nat → Nat → Nat → Option (Nat × Nat)
  | 0, _, _, _ => none
  | f + 1, i, n, t => if h : i < s.size then (if s[i].toNat < 128 then (if s[i].toNat = 0 ∧ 1 < t then none else some (n + s[i].toNat * t, i + 1)) else natGo s f (i + 1) (n + (s[i].toNat - 128) * t) (t * 128)) else none
def natAt (s : ByteArray) (i : Nat) : Option (Nat × Nat) := natGo s 6 i 0 1
theorem natGo_end {s : ByteArray} {f i n t : Nat} (h : ¬ i < s.size) : natGo s f i n t = none := by
  cases f with
  | zero => rfl
  | succ f => rw [natGo, dif_neg h]
theorem natGo_lo {s : ByteArray} {f i n t : Nat} (h : i < s.size) (hb : s[i].toNat < 128) : natGo s (f + 1) i n t = if s[i].toNat = 0 ∧ 1 < t then none else some (n + s[i].toNat * t, i + 1) := by
  rw [natGo, dif_pos h, if_pos hb]
theorem natGo_hi {s : ByteArray} {f i n t : Nat} (h : i < s.size) (hb : ¬ s[i].toNat < 128) : natGo s (f + 1) i n t = natGo s f (i + 1) (n + (s[i].toNat - 128) * t) (t * 128) := by
  rw [natGo, dif_pos h, if_neg hb]
theorem pow_fact {j : Nat} (h : j < 6) : 1 ≤ 128 ^ j ∧ 128 ^ j ≤ 34359738368 ∧ (j = 0 → 128 ^ j = 1) ∧ (0 < j → 128 ≤ 128 ^ j) := by
  match j, h with
  | 0, _ | 1, _ | 2, _ | 3, _ | 4, _ | 5, _ => decide

def natOk (s : ByteArray) (i : Nat) (n tu : Int) (ok : Bool) : Prop := match natAt s i with
  | some (n', tu') => ok = true ∧ n = n' ∧ tu = tu'
  | none => ok = false

def NatRes (s : ByteArray) (p : Nat) (r : Ending) : Prop := ∃ n tu ok, r = .returned (.tuple #[.int .i64 n, .int .i64 tu, .bool ok]) ∧ natOk s p n tu ok

end Go.Proofs.Ytkojeofegoljpaa

namespace Go.Proofs.Ytkojeofegoljpaa
open Go.RowKit

def Rd (w : World) (g : Nat) (s : ByteArray) (p : Nat) (bad : Bool) : Prop := Blk w g 105 #[.string s, .int .i64 p, .bool bad]
def RNat (s : ByteArray) (p g : Nat) (r : Ending) (w' : World) : Prop := ∃ (n : Int) (q : Nat) (bad : Bool), r = .returned (.int .i64 n) ∧ Rd w' g s q bad ∧ q ≤ s.size ∧
  match natAt s p with
  | some (n', tu) => bad = false ∧ n = n' ∧ q = tu
  | none => bad = true ∧ n = 0

theorem Rd.go {w : World} {g : Nat} {s : ByteArray} {p : Nat} {bad : Bool} (h : Rd w g s p bad) : w.cell? ⟨g, 0, none⟩ = some (.string s) ∧ w.cell? ⟨g, 1, none⟩ = some (.int .i64 p) ∧ w.cell? ⟨g, 2, none⟩ = some (.bool bad) ∧
    w.frozen? ⟨g, 1, none⟩ = false ∧ w.frozen? ⟨g, 2, none⟩ = false := ⟨h.cell rfl, h.cell rfl, h.cell rfl, h.frozen 1, h.frozen 2⟩
theorem Rd.drew {w : World} {g : Nat} {s : ByteArray} {p : Nat} {bad : Bool} (h : Rd w g s p bad) : Rd w.drew g s p bad := h
theorem Rd.at_ {w : World} {g : Nat} {s : ByteArray} {p q : Nat} {bad : Bool} (h : Rd w g s p bad) (hq : (p : Int) + 1 = q) : Rd (w.setCell ⟨g, 1, none⟩ (.int .i64 (p + 1))) g s q bad := by
  have := h.set_ 1 (.int .i64 (p + 1))
  rw [hq] at this ⊢
  exact this
theorem Rd.bad {w : World} {g : Nat} {s : ByteArray} {p : Nat} {bad : Bool} (h : Rd w g s p bad) : Rd (w.setCell ⟨g, 2, none⟩ (.bool true)) g s p true := h.set_ 2 (.bool true)

theorem Rd.drN {w : World} {g : Nat} {s : ByteArray} {p : Nat} {bad : Bool} (h : Rd w g s p bad) (n : Nat) : Rd (w.drewN n) g s p bad := Blk.keep h ((Bel.rfl_ w).drN n)
theorem grown_drN {w wr : World} {r : Option Nat} (h : w.grownBy wr r) (n : Nat) : w.grownBy (wr.drewN n) r := h.trans (((Bel.rfl_ wr).drN n).grown r)
theorem grown_setB {w wr : World} {g : Nat} (h : w.grownBy wr (some g)) (i : Nat) (v : Value) : w.grownBy (wr.setCell ⟨g, i, none⟩ v) (some g) := h.trans (grown_set wr g i v)

set_option maxRecDepth 40000 in
set_option maxHeartbeats 2000000 in
theorem rnat_any (s : ByteArray) (p g : Nat) (w : World) (hs : ok64 s.size) (hp : p ≤ s.size) (h : Rd w g s p false) :
    Calls Try.prog 62 #[.pointer (some ⟨g, 0, none⟩)] w fun r w' => RNat s p g r w' ∧ w.grownBy w' (some g) := by
  unfold ok64 at hs
  go_enter Try.func62, Try.ntmps62
  go_wp2
  go_loopw [3, 4] (fun n t wr => ∃ x k m : Nat, p ≤ x ∧ x ≤ p + 6 ∧ x ≤ s.size ∧ n = .int .i64 k ∧ t = .int .i64 m ∧ Hid (m = 128 ^ (x - p)) ∧ k < m ∧ Hid (natGo s (6 - (x - p)) x k m = natAt s p) ∧ Hid (Rd wr g s x false) ∧ Hid (w.grownBy wr (some g))) (fun _ t _ => 4398046511104 - (intOf t).toNat)
  case atStart => exact ⟨p, 0, 1, by omega, by omega, hp, rfl, rfl, (by unfold Hid; simp), by omega, (by unfold Hid; simp [natAt]), h, World.grownBy.refl _ _⟩
  case round =>
    obtain ⟨x, k, m, hx, hx6, hxs, rfl, rfl, HM, hk, hN, HR, HG⟩ := hrel
    obtain ⟨x0, x1, x2, y1, y2⟩ := HR.out.go
    clear h
    by_cases h6 : x < p + 6
    · obtain ⟨f1, f2, f3, f4⟩ := pow_fact (j := x - p) (by omega)
      rw [← HM.out] at f1 f2 f3 f4
      have F3 := Lib.hid f3; have F4 := Lib.hid f4; clear f3 f4
      have ht : decide ((m : Int) < 4398046511104) = true := decide_eq_true (by omega)
      obtain ⟨f, hf⟩ : ∃ f, 6 - (x - p) = f + 1 := ⟨5 - (x - p), by omega⟩
      rw [hf] at hN
      have HF := Lib.hid hf; clear hf
      by_cases hlt : x < s.size
      · obtain ⟨b, hb⟩ : ∃ b, s[x].toNat = b := ⟨_, rfl⟩
        have hb2 : b < 256 := by rw [← hb]; exact s[x].toNat_lt
        have q1 : (b : Int) * m ≤ 8761733283840 := Int.le_trans (Int.mul_le_mul_of_nonneg_right (c := (m : Int)) (show (b : Int) ≤ 255 by omega) (by omega)) (by omega)
        have q0 : 0 ≤ (b : Int) * m := Int.mul_nonneg (by omega) (by omega)
        have hd : decide (x < s.size) = true := decide_eq_true hlt
        by_cases hlo : b < 128
        · have HL := Lib.hid (natGo_lo (f := f) (n := k) (t := m) hlt (by omega))
          rw [hb] at HL
          rcases Nat.eq_zero_or_pos b with hb0 | hb0
          · rcases Nat.eq_or_lt_of_le hx with hxp | hxp
            · have hm1 := F3.out (by omega)
              have HXP := Lib.hid hxp; clear hxp
              have hbz : s[x].toNat = 0 := by omega
              have HB0 := Lib.hid hb0; clear hb0 hb
              go_wp2
              go_quiet (fail)
              go_wp2
              go_quiet (fail)
              go_wp2
              go_ret
              refine ⟨⟨_, x + 1, false, rfl, (HR.out.drN _).at_ (by omega), by omega, ?_⟩, grown_setB (grown_drN HG.out _) 1 _⟩
              rw [← hN.out, HL.out, if_neg (by have := HB0.out; omega), HB0.out]
              exact ⟨rfl, by simp, rfl⟩
            · have hm1 := F4.out (by omega)
              have hbz : s[x].toNat = 0 := by omega
              have HB0 := Lib.hid hb0; clear hb0 hb
              go_wp2
              go_quiet (fail)
              clear ht
              go_wp2
              go_quiet (fail)
              go_wp2
              go_ret
              refine ⟨⟨_, x + 1, true, rfl, ((HR.out.drN _).at_ (by omega)).bad, by omega, ?_⟩, grown_setB (grown_setB (grown_drN HG.out _) 1 _) 2 _⟩
              rw [← hN.out, HL.out, if_pos ⟨HB0.out, by omega⟩]
              exact ⟨rfl, rfl⟩
          · go_wp2
            go_quiet (fail)
            clear ht
            go_wp2
            go_quiet (fail)
            go_wp2
            go_ret
            refine ⟨⟨_, x + 1, false, rfl, (HR.out.drN _).at_ (by omega), by omega, ?_⟩, grown_setB (grown_drN HG.out _) 1 _⟩
            rw [← hN.out, HL.out, if_neg (by omega)]
            exact ⟨rfl, by simp, rfl⟩
        · have q3 : ((b : Int) - 128) * m ≤ 8761733283840 := Int.le_trans (Int.mul_le_mul_of_nonneg_right (c := (m : Int)) (show (b : Int) - 128 ≤ 255 by omega) (by omega)) (by omega)
          have q2 : 0 ≤ ((b : Int) - 128) * m := Int.mul_nonneg (by omega) (by omega)
          have q4 : (b - 128) * m ≤ 127 * m := Nat.mul_le_mul_right m (by omega)
          have Q4 := Lib.hid q4; clear q4
          have HL := Lib.hid (natGo_hi (f := f) (n := k) (t := m) hlt (by omega))
          rw [hb] at HL
          have HC : Hid ((k : Int) + ((b : Int) - 128) * m = ((k + (b - 128) * m : Nat) : Int)) := Lib.hid (by rw [Int.natCast_add, Int.natCast_mul, Int.ofNat_sub (by omega)]; rfl)
          have HK := Lib.hid hk
          go_wp2
          go_quiet (fail)
          clear ht
          go_wp2
          go_quiet (fail)
          go_wp2
          go_roundw
          case rel =>
            refine ⟨x + 1, k + (b - 128) * m, m * 128, by omega, by omega, by omega, by rw [HC.out], by go_num, ?_, ?_, ?_, (HR.out.drN _).at_ (by omega), grown_setB (grown_drN HG.out _) 1 _⟩
            · unfold Hid
              rw [show x + 1 - p = (x - p) + 1 by omega, Nat.pow_succ, ← HM.out]
            · have := Q4.out; have := HK.out; omega
            · unfold Hid
              rw [show 6 - (x + 1 - p) = f by have := HF.out; omega, ← hN.out, HL.out]
          case measure => simp [intOf]; omega
      · have hd : decide (x < s.size) = false := decide_eq_false hlt
        go_wp2
        go_quiet (fail)
        go_wp2
        go_ret
        refine ⟨⟨_, x, true, rfl, (HR.out.drN _).bad, by omega, ?_⟩, grown_setB (grown_drN HG.out _) 2 _⟩
        rw [← hN.out, natGo_end hlt]
        exact ⟨rfl, rfl⟩
    · have h0 : 6 - (x - p) = 0 := by omega
      rw [h0] at hN
      have hm6 : m = 4398046511104 := by
        have := HM.out
        rw [show x - p = 6 by omega] at this
        exact this
      have ht : decide ((m : Int) < 4398046511104) = false := by rw [hm6]; rfl
      by_cases hlt : x < s.size
      · have hd : decide (x < s.size) = true := decide_eq_true hlt
        clear HM hk hm6
        go_wp2
        go_quiet (fail)
        go_wp2
        go_ret
        refine ⟨⟨_, x, true, rfl, (HR.out.drN _).bad, by omega, ?_⟩, grown_setB (grown_drN HG.out _) 2 _⟩
        rw [← hN.out]
        exact ⟨rfl, rfl⟩
      · have hd : decide (x < s.size) = false := decide_eq_false hlt
        clear HM hk hm6
        go_wp2
        go_quiet (fail)
        go_wp2
        go_ret
        refine ⟨⟨_, x, true, rfl, (HR.out.drN _).bad, by omega, ?_⟩, grown_setB (grown_drN HG.out _) 2 _⟩
        rw [← hN.out]
        exact ⟨rfl, rfl⟩

end Go.Proofs.Ytkojeofegoljpaa

namespace Go.Proofs.Ytkojeofegoljpaa
open Go.RowKit

theorem natGo_lt {s : ByteArray} {a b : Nat} : ∀ (f i n t : Nat), n < t → natGo s f i n t = some (a, b) → a < t * 128 ^ f ∧ i < b ∧ b ≤ s.size
  | 0, _, _, _, _, h => by cases h
  | f + 1, i, n, t, hn, h => by
    by_cases hi : i < s.size
    · by_cases hb : s[i].toNat < 128
      · rw [natGo_lo hi hb] at h
        split at h
        · cases h
        · injection h with h
          injection h with h1 h2
          have h3 : s[i].toNat * t ≤ 127 * t := Nat.mul_le_mul_right t (by omega)
          have h4 : t * 128 ≤ t * 128 ^ (f + 1) := by
            rw [Nat.pow_succ]
            exact Nat.mul_le_mul_left t (Nat.le_mul_of_pos_left 128 (Nat.pow_pos (by omega)))
          omega
      · rw [natGo_hi hi hb] at h
        have hlt := s[i].toNat_lt
        have h3 : (s[i].toNat - 128) * t ≤ 127 * t := Nat.mul_le_mul_right t (by omega)
        have := natGo_lt f (i + 1) (n + (s[i].toNat - 128) * t) (t * 128) (by omega) h
        rw [Nat.mul_assoc, ← Nat.pow_succ'] at this
        exact ⟨this.1, by omega, this.2.2⟩
    · rw [natGo_end hi] at h
      cases h
theorem natAt_lt {s : ByteArray} {p n q : Nat} (h : natAt s p = some (n, q)) : n < 4398046511104 ∧ p < q ∧ q ≤ s.size := natGo_lt 6 p 0 1 (by omega) h

def unzig (n : Nat) : Int := if n % 2 = 1 then -((n / 2 : Nat) : Int) - 1 else ((n / 2 : Nat) : Int)
def RNum (s : ByteArray) (p g : Nat) (r : Ending) (w' : World) : Prop := ∃ (v : Int) (q : Nat) (bad : Bool), r = .returned (.int .i64 v) ∧ Rd w' g s q bad ∧ q ≤ s.size ∧
  match natAt s p with
  | some (n', tu) => bad = false ∧ v = unzig n' ∧ q = tu
  | none => bad = true ∧ v = 0

theorem rnum_any (s : ByteArray) (p g : Nat) (w : World) (hs : ok64 s.size) (hp : p ≤ s.size) (h : Rd w g s p false) :
    Calls Try.prog 63 #[.pointer (some ⟨g, 0, none⟩)] w fun r w' => RNum s p g r w' ∧ w.grownBy w' (some g) := by
  have H := Lib.hid (rnat_any s p g w hs hp h)
  clear h
  go_enter Try.func63, Try.ntmps63
  go_wp2_with fail
  refine H.out.mono ?_
  rintro e w1 ⟨⟨n, q, bad, rfl, hr, hq, hn⟩, hg⟩
  have HG := Lib.hid hg; have HR := Lib.hid hr; clear hg hr
  have HU : ∀ v : Int, (match natAt s p with | some (n', tu) => bad = false ∧ v = unzig n' ∧ q = tu | none => bad = true ∧ v = 0) → RNum s p g (.returned (.int .i64 v)) w1 := fun v hv => ⟨v, q, bad, rfl, HR.out, hq, hv⟩
  have HU := Lib.hid HU
  cases hN : natAt s p with
  | none =>
    rw [hN] at hn HU
    obtain ⟨hb, hn0⟩ := hn
    have HB := Lib.hid hb; clear hb
    subst hn0
    have HN := Lib.hid hN; clear hN
    go_wp2
    go_ret
    exact ⟨HU.out _ ⟨HB.out, rfl⟩, HG.out⟩
  | some a =>
    obtain ⟨m, tu⟩ := a
    rw [hN] at hn HU
    obtain ⟨hb, hn0, hto⟩ := hn
    have hm := (natAt_lt hN).1
    have HB := Lib.hid hb; have HT := Lib.hid hto; have HN := Lib.hid hN; clear hb hto hN
    subst hn0
    by_cases h2 : m % 2 = 1
    · have hd : ((m : Int) % 2 == 1) = true := by simp; omega
      have hq1 : ((m : Int) + 1).tdiv 2 = ((m / 2 : Nat) : Int) + 1 := by
        rw [Int.tdiv_eq_ediv_of_nonneg (by omega)]
        omega
      have hq2 : -9223372036854775808 ≤ ((m / 2 : Nat) : Int) ∧ ((m / 2 : Nat) : Int) ≤ 4398046511104 := by omega
      have HE : Hid (unzig m = -(((m / 2 : Nat) : Int) + 1)) := Lib.hid (by unfold unzig; rw [if_pos h2]; omega)
      generalize ((m / 2 : Nat) : Int) = y at hq1 hq2 HE
      obtain ⟨hq2, hq3⟩ := hq2
      go_wp2
      go_ret
      refine ⟨HU.out _ ⟨HB.out, ?_, HT.out⟩, HG.out⟩
      rw [HE.out]
    · have hd : ((m : Int) % 2 == 1) = false := by simp; omega
      go_wp2
      go_ret
      refine ⟨HU.out _ ⟨HB.out, ?_, HT.out⟩, HG.out⟩
      unfold unzig
      rw [if_neg h2]
      first | rfl | omega

end Go.Proofs.Ytkojeofegoljpaa

namespace Go.Proofs.Ytkojeofegoljpaa
open Go.RowKit

def rd (s : ByteArray) (p : Nat) : Nat → Option (List Nat × Nat)
  | 0 => some ([], p)
  | m + 1 => match rd s p m with
    | none => none
    | some (l, e) => match natAt s e with
      | none => none
      | some (n, tu) => some (l ++ [n], tu)
theorem rd_some {s : ByteArray} {p m : Nat} {l : List Nat} {e n tu : Nat} (h : rd s p m = some (l, e)) (hn : natAt s e = some (n, tu)) : rd s p (m + 1) = some (l ++ [n], tu) := by rw [rd, h]; simp only [hn]
theorem rd_none {s : ByteArray} {p m : Nat} {l : List Nat} {e : Nat} (h : rd s p m = some (l, e)) (hn : natAt s e = none) : rd s p (m + 1) = none := by rw [rd, h]; simp only [hn]
theorem rd_up {s : ByteArray} {p m : Nat} (h : rd s p m = none) : ∀ d, rd s p (m + d) = none
  | 0 => h
  | d + 1 => by rw [← Nat.add_assoc, rd, rd_up h d]
theorem rd_facts {s : ByteArray} {p : Nat} (hp : p ≤ s.size) : ∀ (m : Nat) (l : List Nat) (e : Nat), rd s p m = some (l, e) → l.length = m ∧ e ≤ s.size ∧ ∀ x ∈ l, x < 4398046511104
  | 0, l, e, h => by
    rw [rd] at h
    injection h with h
    injection h with h1 h2
    subst h1 h2
    exact ⟨rfl, hp, by simp⟩
  | m + 1, l, e, h => by
    rw [rd] at h
    split at h
    · cases h
    · rename_i l' e' hr
      split at h
      · cases h
      · rename_i n tu hn
        injection h with h
        injection h with h1 h2
        subst h1 h2
        obtain ⟨g1, g2, g3⟩ := rd_facts hp m l' e' hr
        obtain ⟨k1, k2, k3⟩ := natAt_lt hn
        refine ⟨by simp [g1], k3, fun x hx => ?_⟩
        rcases List.mem_append.1 hx with hx | hx
        · exact g3 x hx
        · rw [List.mem_singleton.1 hx]; exact k1

def colSum (l : List Nat) (many k : Nat) : Int := ((l.drop (k * many)).map unzig).sum
def val (l : List Nat) (many c i : Nat) : Int := (((l.drop (c * many)).take (i + 1)).map unzig).sum
theorem val_ext {l : List Nat} {many c i : Nat} (h : c * many + i + 1 ≤ l.length) (r : List Nat) : val (l ++ r) many c i = val l many c i := by
  unfold val
  rw [List.drop_append_of_le_length (by omega), List.take_append_of_le_length (by rw [List.length_drop]; omega)]
theorem colSum_snoc {l : List Nat} {many k : Nat} (h : k * many ≤ l.length) (n : Nat) : colSum (l ++ [n]) many k = colSum l many k + unzig n := by
  unfold colSum
  rw [List.drop_append_of_le_length h, List.map_append, List.sum_append]
  simp
theorem val_new {l : List Nat} {many k j : Nat} (h : l.length = k * many + j) (n : Nat) : val (l ++ [n]) many k j = colSum l many k + unzig n := by
  rw [← colSum_snoc (by omega)]
  unfold val colSum
  rw [List.take_of_length_le (by rw [List.length_drop, List.length_append, h, List.length_singleton]; omega)]
theorem colSum_zero {l : List Nat} {many k : Nat} (h : l.length = k * many) : colSum l many k = 0 := by
  unfold colSum
  rw [List.drop_of_length_le (by omega)]
  rfl
theorem unzig_le {n : Nat} (h : n < 4398046511104) : -4398046511104 ≤ unzig n ∧ unzig n ≤ 4398046511104 := by unfold unzig; split <;> omega
theorem sum_le : ∀ (l : List Nat), (∀ x ∈ l, x < 4398046511104) → -(4398046511104 * (l.length : Int)) ≤ (l.map unzig).sum ∧ (l.map unzig).sum ≤ 4398046511104 * (l.length : Int)
  | [], _ => by simp
  | x :: l, h => by
    have h1 := unzig_le (h x (by simp))
    have h2 := sum_le l (fun y hy => h y (by simp [hy]))
    rw [List.map_cons, List.sum_cons, List.length_cons]
    omega
theorem colSum_le {l : List Nat} {many k j : Nat} (hl : ∀ x ∈ l, x < 4398046511104) (h : l.length = k * many + j) (hj : j ≤ 4000) : -17592186044416000 ≤ colSum l many k ∧ colSum l many k ≤ 17592186044416000 := by
  have := sum_le (l.drop (k * many)) (fun x hx => hl x (List.mem_of_mem_drop hx))
  have h2 : (l.drop (k * many)).length = j := by rw [List.length_drop, h]; omega
  rw [h2] at this
  unfold colSum
  omega

def evAtK (l : List Nat) (many i : Nat) : Ev := ⟨val l many 0 i, val l many 1 i, val l many 2 i, val l many 3 i, val l many 4 i, val l many 5 i⟩
def evsOfK (l : List Nat) (many : Nat) : List Ev := (List.range many).map (evAtK l many)
/-- what is decoded: the error, the events -/
def decOf (s : ByteArray) : Int × List Ev := match natAt s 0 with
  | none => (1, [])
  | some (many, a) => if 4000 < many then (2, []) else match rd s a (6 * many) with
    | none => (1, [])
    | some (l, e) => if e < s.size then (1, []) else if (evsOfK l many).all evSmall = true then (0, evsOfK l many) else (1, [])

/-- cells of events, column by column -/
def OutOk (arr : Array Value) (many : Nat) (F : Nat → Nat → Int) : Prop := arr.size = many * 6 ∧ ∀ i c, i < many → c < 6 → arr[i * 6 + c]? = some (.int .i64 (F i c))
theorem OutOk.set {arr : Array Value} {many : Nat} {F G : Nat → Nat → Int} (h : OutOk arr many F) {i c : Nat} (hi : i < many) (hc : c < 6) {v : Int} (hv : G i c = v) (hG : ∀ i' c', i' < many → c' < 6 → ¬ (i' = i ∧ c' = c) → G i' c' = F i' c') :
    OutOk (arr.setIfInBounds (i * 6 + c) (.int .i64 v)) many G := by
  refine ⟨by simp [h.1], fun i' c' hi' hc' => ?_⟩
  rw [Array.getElem?_setIfInBounds]
  by_cases he : i * 6 + c = i' * 6 + c'
  · obtain rfl : i = i' := by omega
    obtain rfl : c = c' := by omega
    rw [if_pos he, if_pos (by rw [h.1]; omega), hv]
  · rw [if_neg he, h.2 i' c' hi' hc', hG i' c' hi' hc' (fun ⟨h1, h2⟩ => he (by rw [h1, h2]))]
def partF (l : List Nat) (many k j : Nat) (i c : Nat) : Int := if c < k ∨ (c = k ∧ i < j) then val l many c i else 0
theorem partF_step {arr : Array Value} {l : List Nat} {many k j n : Nat} (h : OutOk arr many (partF l many k j)) (hl : l.length = k * many + j) (hj : j < many) (hk : k < 6) :
    OutOk (arr.setIfInBounds (j * 6 + k) (.int .i64 (colSum l many k + unzig n))) many (partF (l ++ [n]) many k (j + 1)) := by
  refine h.set hj hk (by unfold partF; rw [if_pos (.inr ⟨rfl, by omega⟩), val_new hl]) fun i c hi hc hne => ?_
  unfold partF
  by_cases h1 : c < k ∨ (c = k ∧ i < j)
  · rw [if_pos (h1.imp id fun ⟨a, b⟩ => ⟨a, by omega⟩), if_pos h1, val_ext]
    rw [hl]
    rcases h1 with h1 | ⟨rfl, h1⟩
    · have : (c + 1) * many ≤ k * many := Nat.mul_le_mul_right many h1
      rw [Nat.add_mul] at this
      omega
    · omega
  · rw [if_neg h1, if_neg]
    rintro (h2 | ⟨rfl, h2⟩)
    · exact h1 (.inl h2)
    · exact hne ⟨by have : ¬ i < j := fun h3 => h1 (.inr ⟨rfl, h3⟩)
                    omega, rfl⟩
theorem partF_end {arr : Array Value} {l : List Nat} {many k : Nat} (h : OutOk arr many (partF l many k many)) : OutOk arr many (partF l many (k + 1) 0) := by
  refine ⟨h.1, fun i c hi hc => ?_⟩
  rw [h.2 i c hi hc]
  unfold partF
  by_cases h1 : c < k ∨ (c = k ∧ i < many)
  · rw [if_pos h1, if_pos (by omega)]
  · rw [if_neg h1, if_neg (by omega)]
theorem OutOk.sl {w : World} {og many cap : Nat} {arr : Array Value} {l : List Nat} {t : TypeId} (hB : Blk w og t arr) (h : OutOk arr many (partF l many 6 0)) (hc : many ≤ cap) (hm : cap ≤ maxLen) :
    Sl evR w (.slice (some ⟨og, 0, none⟩) many cap) (evsOfK l many) := by
  have hlen : (evsOfK l many).length = many := by simp [evsOfK]
  refine ⟨some ⟨og, 0, none⟩, cap, by rw [hlen], by omega, ⟨hm, fun h => by cases h⟩, fun _ => ⟨og, 0, rfl, fun i x hx => ⟨x.cells, rfl, fun c u hu => ?_⟩⟩⟩
  have hi : i < many := by have := (List.getElem?_eq_some_iff.1 hx).1; omega
  have hx2 : x = evAtK l many i := by
    unfold evsOfK at hx
    rw [List.getElem?_map, List.getElem?_range hi] at hx
    exact (Option.some.inj hx).symm
  have hc6 : c < 6 := (List.getElem?_eq_some_iff.1 hu).1
  have h6 : evR.size = 6 := rfl
  rw [h6, hB.cell (show arr[0 + i * 6 + c]? = some (.int .i64 (partF l many 6 0 i c)) by rw [Nat.zero_add]; exact h.2 i c hi hc6), ← hu]
  subst hx2
  unfold partF
  rw [if_pos (.inl hc6)]
  match c, hc6 with
  | 0, _ | 1, _ | 2, _ | 3, _ | 4, _ | 5, _ => rfl

end Go.Proofs.Ytkojeofegoljpaa

namespace Go.Proofs.Ytkojeofegoljpaa
open Go.RowKit

theorem Bel.ofGrown {w a b : World} {g : Nat} (h : Bel w a) (hg : a.grownBy b (some g)) (hwg : w.heap.size ≤ g) : Bel w b := Below.grown h hg h.size (fun k hk => by
  have : g = k := by simpa using hk
  omega)

theorem decode_bad (s : ByteArray) (w : World) (hs : ok64 s.size) (hN : natAt s 0 = none) :
    Calls Try.prog 32 #[.string s] w fun r w' => r = .returned (.tuple #[.slice none 0 0, .int .i64 1]) ∧ Bel w w' := by
  have HN := Lib.hid hN; clear hN
  have hr0 : Rd (w.alloc (.cells #[.string s, .int .i64 0, .bool false] 105)) w.heap.size s 0 false := Blk.new _ _ _
  have HR := Lib.hid (rnat_any s 0 w.heap.size _ hs (Nat.zero_le _) hr0); clear hr0
  go_enter Try.func32, Try.ntmps32
  go_wp2_with fail
  refine HR.out.mono ?_
  rintro e w1 ⟨⟨n, q, bad, rfl, hr, hq, hn⟩, hg⟩
  rw [HN.out] at hn
  obtain ⟨rfl, rfl⟩ := hn
  have HB1 := Lib.hid (Bel.ofGrown ((Bel.rfl_ w).al _) hg (Nat.le_refl _))
  obtain ⟨x0, x1, x2, y1, y2⟩ := Rd.go hr
  clear hr hg
  go_wp2
  go_ret2
  exact ⟨rfl, HB1.out⟩

theorem decode_many (s : ByteArray) (many a : Nat) (w : World) (hs : ok64 s.size) (hN : natAt s 0 = some (many, a)) (hm : 4000 < many) :
    Calls Try.prog 32 #[.string s] w fun r w' => r = .returned (.tuple #[.slice none 0 0, .int .i64 2]) ∧ Bel w w' := by
  have HN := Lib.hid hN; clear hN
  have hr0 : Rd (w.alloc (.cells #[.string s, .int .i64 0, .bool false] 105)) w.heap.size s 0 false := Blk.new _ _ _
  have HR := Lib.hid (rnat_any s 0 w.heap.size _ hs (Nat.zero_le _) hr0); clear hr0
  go_enter Try.func32, Try.ntmps32
  go_wp2_with fail
  refine HR.out.mono ?_
  rintro e w1 ⟨⟨n, q, bad, rfl, hr, hq, hn⟩, hg⟩
  rw [HN.out] at hn
  obtain ⟨rfl, rfl, rfl⟩ := hn
  have HB1 := Lib.hid (Bel.ofGrown ((Bel.rfl_ w).al _) hg (Nat.le_refl _))
  obtain ⟨x0, x1, x2, y1, y2⟩ := Rd.go hr
  clear hr hg
  go_wp2
  go_ret2
  exact ⟨rfl, HB1.out⟩

theorem mk_evs (many : Nat) (hm : many ≤ 4000) (w : World) : ∃ arr, (Instr.makeSlice 45 (.int .i64 many) (.int .i64 many)).run Try.prog w = .ok (.slice (some ⟨w.heap.size, 0, none⟩) many many) (w.alloc (.cells arr 81)) ∧ OutOk arr many (fun _ _ => 0) := by
  have h2 : (Try.prog.info? 81).map (fun i => (i.zero, i.size, i.bytes)) = some (some (.agg #[.int .i64 0, .int .i64 0, .int .i64 0, .int .i64 0, .int .i64 0, .int .i64 0]), 6, 48) := by kernel_rfl
  obtain ⟨i, hi, hz0, hz1, hz2⟩ := info_parts h2
  have hr := run_make (P := Try.prog) w 45 81 i _ Try.underlying45 hi hz0 .i64 .i64 many many (by omega) (by omega) (by rw [hz2]; omega) (by omega)
  rw [hz1, Int.toNat_natCast] at hr
  refine ⟨_, hr, size_madeCells _ _, fun x c hx hc => ?_⟩
  unfold madeCells
  rw [Array.getElem?_map, Array.getElem?_range, if_pos (by omega)]
  have : (x * 6 + c) % 6 = c := by omega
  simp only [Value.cells, Option.map_some]
  show some (#[Value.int .i64 0, .int .i64 0, .int .i64 0, .int .i64 0, .int .i64 0, .int .i64 0][(x * 6 + c) % 6]!) = _
  rw [this]
  match c, hc with
  | 0, _ | 1, _ | 2, _ | 3, _ | 4, _ | 5, _ => rfl

theorem ptr_cellO {w : World} {g b o : Nat} (h : Blk w g 99 #[.pointer (some ⟨b, o, none⟩), .pointer (some ⟨b, o + 1, none⟩), .pointer (some ⟨b, o + 2, none⟩), .pointer (some ⟨b, o + 3, none⟩), .pointer (some ⟨b, o + 4, none⟩), .pointer (some ⟨b, o + 5, none⟩)])
    {k : Nat} (hk : k < 6) : w.cell? ⟨g, k, none⟩ = some (.pointer (some ⟨b, o + k, none⟩)) := by
  match k, hk with
  | 0, _ | 1, _ | 2, _ | 3, _ | 4, _ | 5, _ => exact h.cell rfl

/-- where the decoding stands: k columns, and j numbers of the next one -/
def DSt (s : ByteArray) (a many g og : Nat) (wr : World) (k j : Nat) (x : Int) : Prop := ∃ l e arr, rd s a (k * many + j) = some (l, e) ∧ x = colSum l many k ∧ Rd wr g s e false ∧ Blk wr og 81 arr ∧ OutOk arr many (partF l many k j)
theorem DSt.zero {s : ByteArray} {a many g og : Nat} {wr : World} {k : Nat} {x : Int} (ha : a ≤ s.size) : DSt s a many g og wr k 0 x → x = 0 := fun ⟨l, e, arr, h1, h2, _⟩ => by
  rw [h2, colSum_zero]
  exact (rd_facts ha _ _ _ h1).1
theorem DSt.next {s : ByteArray} {a many g og : Nat} {wr : World} {k : Nat} {x : Int} (ha : a ≤ s.size) : DSt s a many g og wr k many x → DSt s a many g og wr (k + 1) 0 0 := fun ⟨l, e, arr, h1, h2, h3, h4, h5⟩ => by
  have h6 : (k + 1) * many + 0 = k * many + many := by rw [Nat.add_mul, Nat.one_mul, Nat.add_zero]
  have h7 : rd s a ((k + 1) * many + 0) = some (l, e) := by rw [h6]; exact h1
  refine ⟨l, e, arr, h7, ?_, h3, h4, partF_end h5⟩
  rw [colSum_zero]
  exact (rd_facts ha _ _ _ h7).1
theorem decOf_none {s : ByteArray} {many a m : Nat} (hN : natAt s 0 = some (many, a)) (hm : many ≤ 4000) (h : rd s a m = none) (hle : m ≤ 6 * many) : decOf s = (1, []) := by
  obtain ⟨d, hd⟩ := Nat.le.dest hle
  have := rd_up h d
  rw [hd] at this
  unfold decOf
  rw [hN]
  simp only [this]
  rw [if_neg (by omega)]

/-- what Decode hands back lies in a row of the call's own -/
def DRw (w w' : World) (v : Value) : Prop := ∃ A n c, v = .slice A n c ∧ n ≤ 4000 ∧ (0 < n → ∃ g cur, A = some ⟨g, 0, none⟩ ∧ n ≤ c ∧ w.heap.size ≤ g ∧ Blk w' g 81 cur ∧ n * 6 ≤ cur.size)
theorem DRw.nil (w w' : World) : DRw w w' (.slice none 0 0) := ⟨none, 0, 0, rfl, by omega, fun h => by omega⟩

set_option maxRecDepth 20000 in
set_option maxHeartbeats 1000000 in
theorem decode_ok (s : ByteArray) (many a : Nat) (w : World) (hs : ok64 s.size) (hN : natAt s 0 = some (many, a)) (hm : many ≤ 4000) :
    Calls Try.prog 32 #[.string s] w fun r w' => ∃ v, r = .returned (.tuple #[v, .int .i64 (decOf s).1]) ∧ (Sl evR w' v (decOf s).2 ∧ DRw w w' v) ∧ Bel w w' := by
  have HN := Lib.hid hN; clear hN
  have hr0 : Rd (w.alloc (.cells #[.string s, .int .i64 0, .bool false] 105)) w.heap.size s 0 false := Blk.new _ _ _
  have HR := Lib.hid (rnat_any s 0 w.heap.size _ hs (Nat.zero_le _) hr0); clear hr0
  go_enter Try.func32, Try.ntmps32
  go_wp2_with fail
  refine HR.out.mono ?_
  rintro e w1 ⟨⟨n, q, bad, rfl, hr, hq, hn⟩, hg⟩
  rw [HN.out] at hn
  obtain ⟨rfl, rfl, rfl⟩ := hn
  have HB1 := Lib.hid (Bel.ofGrown ((Bel.rfl_ w).al _) hg (Nat.le_refl _))
  obtain ⟨x0, x1, x2, y1, y2⟩ := Rd.go hr
  have HR1 := Lib.hid hr
  clear hr hg HR
  obtain ⟨arr, hmk, hout⟩ := mk_evs many hm w1
  obtain ⟨hna, hap, has⟩ := natAt_lt HN.out
  have HGG : Hid (w.heap.size < w1.heap.size) := Lib.hid (by have := HR1.out.lt; exact this)
  have HD0 : Hid (DSt s q many w.heap.size w1.heap.size (w1.alloc (.cells arr 81)) 0 0 0) := Lib.hid ⟨[], q, arr, by simp [rd], by simp [colSum], HR1.out.keep ((Bel.rfl_ w1).al _), Blk.new _ _ _, hout.1, fun i c hi hc => by rw [hout.2 i c hi hc]; unfold partF; rw [if_neg (by omega)]⟩
  have HB2 := Lib.hid (HB1.out.al (.cells arr 81))
  clear hout HB1
  go_wp2_with fail
  clear hmk x0 x1 x2 y1 y2
  generalize hog : w1.heap.size = og at HD0 HGG ⊢
  generalize hgg : w.heap.size = g at HD0 HGG ⊢
  have HG : Hid (w.heap.size = g) := Lib.hid hgg
  clear hog hgg HR1
  have HRA := Lib.hid has
  go_loopw [23] (fun i wr => ∃ k : Nat, k ≤ 6 ∧ i = .int .i64 k ∧ Hid (DSt s q many g og wr k 0 0) ∧ Hid (Bel w wr)) (fun i _ => 6 - (intOf i).toNat)
  case atStart => exact ⟨0, by omega, rfl, HD0, HB2⟩
  case round =>
    obtain ⟨k, hk, rfl, HD, HB⟩ := hrel
    clear HD0 HB2
    by_cases hk6 : k < 6
    · have hdk : decide ((k : Int) < 6) = true := decide_eq_true (by omega)
      go_wp2
      go_loopw [8, 28] (fun u i wr => ∃ (j : Nat) (x : Int), j ≤ many ∧ i = .int .i64 j ∧ u = .int .i64 x ∧ Hid (DSt s q many g og wr k j x) ∧ Hid (Bel w wr)) (fun _ i _ => many - (intOf i).toNat)
      case atStart => exact ⟨0, 0, by omega, rfl, rfl, HD, HB⟩
      case round =>
        clear HD HB
        obtain ⟨j, x, hj, rfl, rfl, HD, HB⟩ := hrel
        by_cases hlt : j < many
        · obtain ⟨l, e, arr, hrd, hx, hR, hA, hO⟩ := HD.out
          obtain ⟨hl, hes, hlx⟩ := rd_facts HRA.out _ _ _ hrd
          have hsum := colSum_le hlx hl (by omega)
          rw [← hx] at hsum
          obtain ⟨hs1, hs2⟩ := hsum
          have HRN := Lib.hid (rnum_any s e g wr hs hes hR)
          have HX := Lib.hid hx; have HRD := Lib.hid hrd; have HAA := Lib.hid hA; have HO := Lib.hid hO; have HLX := Lib.hid hlx; have HL := Lib.hid hl
          clear hx hrd hR hA hO hlx hl
          go_wp2_with fail
          refine HRN.out.mono ?_
          rintro e' w3 ⟨⟨v, q2, bad, rfl, hr3, hq3, hn3⟩, hg3⟩
          have HB3 := Lib.hid (Bel.ofGrown HB.out hg3 (Nat.le_of_eq HG.out))
          have HA3 : Hid (Blk w3 og 81 arr) := Lib.hid (HAA.out.grown hg3 (by have := HGG.out; simp; omega))
          obtain ⟨x0, x1, x2, y1, y2⟩ := Rd.go hr3
          have HR3 := Lib.hid hr3
          clear hg3 hr3 HRN HAA
          cases hne : natAt s e with
          | none =>
            rw [hne] at hn3
            obtain ⟨rfl, rfl⟩ := hn3
            have HE : Hid (decOf s = (1, [])) := Lib.hid (decOf_none HN.out hm (rd_none HRD.out hne) (by have := Nat.mul_le_mul_right many (show k + 1 ≤ 6 by omega); rw [Nat.add_mul] at this; omega))
            clear hne
            go_wp2
            go_ret2
            refine ⟨.slice none 0 0, by rw [HE.out]; rfl, ⟨?_, DRw.nil _ _⟩, HB3.out⟩
            rw [HE.out]
            exact Sl.nil_ _ _
          | some nt =>
            obtain ⟨n, tu⟩ := nt
            rw [hne] at hn3
            obtain ⟨rfl, rfl, rfl⟩ := hn3
            obtain ⟨hu1, hu2⟩ := unzig_le (natAt_lt hne).1
            have HST := Lib.hid (rd_some HRD.out hne)
            clear hne
            go_wp2_with fail
            refine (columns_any og (j * 6) w3).mono ?_
            rintro e' w4 ⟨rfl, hb4, hblk⟩
            have z0 := ptr_cellO hblk hk6
            have hA4 := HA3.out.keep hb4
            have z1 := hA4.cell (HO.out.2 j k hlt hk6)
            have z2 := hA4.frozen (j * 6 + k)
            have HR4 := Lib.hid (HR3.out.keep hb4)
            have HB4 := Lib.hid (HB3.out.tr hb4)
            have HA4 := Lib.hid hA4
            clear hA4 hb4 hblk
            go_wp2
            go_roundw
            case rel =>
              refine ⟨j + 1, x + unzig n, by omega, by go_num, rfl, ⟨l ++ [n], _, _, HST.out, ?_, ?_, HA4.out.set_ _ _, ?_⟩, HB4.out.setCell (by have := HGG.out; have := HG.out; simp; omega) _⟩
              · rw [colSum_snoc (by have := HL.out; omega), HX.out]
              · exact HR4.out.grown (grown_set w4 og _ _) (by have := HGG.out; simp; omega)
              · have := partF_step HO.out HL.out hlt hk6 (n := n)
                rw [HX.out]
                exact this
            case measure => simp [intOf]; omega
        · obtain rfl : j = many := by omega
          go_wp2
          go_roundw
          case rel => exact ⟨k + 1, by omega, by go_num, HD.out.next HRA.out, HB⟩
          case measure => simp [intOf]; omega
    · obtain rfl : k = 6 := by omega
      obtain ⟨l, e, arr, hrd, hx, hR, hA, hO⟩ := HD.out
      obtain ⟨hl, hes, hlx⟩ := rd_facts HRA.out _ _ _ hrd
      obtain ⟨x0, x1, x2, y1, y2⟩ := Rd.go hR
      have HBK := Lib.hid hA
      have HAS := Lib.hid hO.1
      have HSL := Lib.hid (hO.sl hA (Nat.le_refl many) (by simp only [maxLen]; omega))
      have hdec : decOf s = if e < s.size then (1, []) else if (evsOfK l many).all evSmall = true then (0, evsOfK l many) else (1, []) := by
        unfold decOf
        rw [HN.out]
        rw [Nat.add_zero] at hrd
        simp only [hrd]
        rw [if_neg (by omega)]
      have HDEC := Lib.hid hdec
      have hel : (evsOfK l many).length = many := by simp [evsOfK]
      have HEL := Lib.hid hel
      clear hx hrd hR hA hO hlx hl HD hdec hel
      by_cases hlt : e < s.size
      · rw [if_pos hlt] at HDEC
        have hd : decide (e < s.size) = true := decide_eq_true hlt
        go_wp2
        go_ret2
        refine ⟨.slice none 0 0, by rw [HDEC.out]; rfl, ⟨?_, DRw.nil _ _⟩, HB.out⟩
        rw [HDEC.out]
        exact Sl.nil_ _ _
      · rw [if_neg hlt] at HDEC
        have hd : decide (e < s.size) = false := decide_eq_false hlt
        cases hall : (evsOfK l many).all evSmall with
        | true =>
          rw [if_pos hall] at HDEC
          go_wp2_with (go_at_call 47; refine (containsFuncK_any _ (.inr rfl) _ _ _ HSL.out (by have := HEL.out; unfold ok64; omega)).mono ?_; rintro e' w5 ⟨rfl, hb5⟩; have HB5 := Lib.hid (HB.out.tr hb5); have HS5 := Lib.hid (HSL.out.keep hb5); have HBK5 := Lib.hid (HBK.out.keep hb5); clear hb5; simp only [hall, Bool.not_true])
          go_ret2
          refine ⟨_, by rw [HDEC.out]; rfl, ⟨?_, ⟨_, _, _, rfl, by omega, fun _ => ⟨_, _, rfl, Nat.le_refl _, by have := HGG.out; have := HG.out; omega, HBK5.out, Nat.le_of_eq HAS.out.symm⟩⟩⟩, HB5.out⟩
          rw [HDEC.out]
          exact HS5.out
        | false =>
          rw [if_neg (by simp [hall])] at HDEC
          go_wp2_with (go_at_call 47; refine (containsFuncK_any _ (.inr rfl) _ _ _ HSL.out (by have := HEL.out; unfold ok64; omega)).mono ?_; rintro e' w5 ⟨rfl, hb5⟩; have HB5 := Lib.hid (HB.out.tr hb5); clear hb5; simp only [hall, Bool.not_false])
          go_ret2
          refine ⟨.slice none 0 0, by rw [HDEC.out]; rfl, ⟨?_, DRw.nil _ _⟩, HB5.out⟩
          rw [HDEC.out]
          exact Sl.nil_ _ _

theorem decodeO_any (s : ByteArray) (w : World) (hs : ok64 s.size) :
    Calls Try.prog 32 #[.string s] w fun r w' => ∃ v, r = .returned (.tuple #[v, .int .i64 (decOf s).1]) ∧ (Sl evR w' v (decOf s).2 ∧ DRw w w' v) ∧ Bel w w' := by
  cases hN : natAt s 0 with
  | none =>
    have hd : decOf s = (1, []) := by unfold decOf; rw [hN]
    rw [hd]
    exact (decode_bad s w hs hN).mono fun _ _ ⟨h1, h2⟩ => ⟨_, h1, ⟨Sl.nil_ _ _, DRw.nil _ _⟩, h2⟩
  | some a =>
    obtain ⟨many, a⟩ := a
    by_cases hm : 4000 < many
    · have hd : decOf s = (2, []) := by unfold decOf; rw [hN]; simp only; rw [if_pos hm]
      rw [hd]
      exact (decode_many s many a w hs hN hm).mono fun _ _ ⟨h1, h2⟩ => ⟨_, h1, ⟨Sl.nil_ _ _, DRw.nil _ _⟩, h2⟩
    · exact decode_ok s many a w hs hN (by omega)
theorem decode_any (s : ByteArray) (w : World) (hs : ok64 s.size) :
    Calls Try.prog 32 #[.string s] w fun r w' => ∃ v, r = .returned (.tuple #[v, .int .i64 (decOf s).1]) ∧ Sl evR w' v (decOf s).2 ∧ Bel w w' :=
  (decodeO_any s w hs).mono fun _ _ ⟨v, h1, h2, h3⟩ => ⟨v, h1, h2.1, h3⟩

end Go.Proofs.Ytkojeofegoljpaa

namespace Go.Proofs.Ytkojeofegoljpaa
open Go.RowKit

theorem byte_str {xs : List Int} {i : Nat} {b : Int} (hb : xs[i]? = some b) (h0 : 0 ≤ b) (h1 : b < 256) : ∃ h : i < (strOfNums xs).size, (strOfNums xs)[i].toNat = b.toNat := by
  obtain ⟨hi, rfl⟩ := List.getElem?_eq_some_iff.1 hb
  have hs : i < (strOfNums xs).size := by rw [strOfNums_size]; exact hi
  refine ⟨hs, ?_⟩
  have : (strOfNums xs)[i] = UInt8.ofNat (xs[i]).toNat := by
    show (strOfNums xs).data[i] = _
    simp [strOfNums]
  rw [this, UInt8.toNat_ofNat']
  omega

theorem natGo_natB : ∀ (f acc t n : Nat) (pre post : List Int), n < 128 ^ f → (1 < t → 0 < n) → 0 < f →
    natGo (strOfNums (pre ++ natB n ++ post)) f pre.length acc t = some (acc + n * t, pre.length + (natB n).length)
  | 0, _, _, _, _, _, _, _, h => absurd h (by omega)
  | f + 1, acc, t, n, pre, post, hn, ht, _ => by
    by_cases hlo : n < 128
    · rw [natB_lo hlo]
      obtain ⟨h, hb⟩ := byte_str (xs := pre ++ [(n : Int)] ++ post) (i := pre.length) (b := n) (by simp) (by omega) (by omega)
      rw [natGo_lo h (by omega), hb, if_neg (by omega)]
      simp
    · rw [natB_hi hlo]
      obtain ⟨h, hb⟩ := byte_str (xs := pre ++ (((n % 128 + 128 : Nat) : Int) :: natB (n / 128)) ++ post) (i := pre.length) (b := ((n % 128 + 128 : Nat) : Int)) (by simp) (by omega) (by omega)
      have hf : 0 < f := by
        rcases Nat.eq_zero_or_pos f with rfl | hf
        · simp at hn; omega
        · exact hf
      have ih := natGo_natB f (acc + (n % 128) * t) (t * 128) (n / 128) (pre ++ [((n % 128 + 128 : Nat) : Int)]) post (by rw [Nat.div_lt_iff_lt_mul (by omega)]; rw [Nat.pow_succ] at hn; exact hn) (fun _ => by omega) hf
      rw [natGo_hi h (by omega), hb]
      have e1 : pre ++ [((n % 128 + 128 : Nat) : Int)] ++ natB (n / 128) ++ post = pre ++ (((n % 128 + 128 : Nat) : Int) :: natB (n / 128)) ++ post := by simp
      rw [e1, List.length_append, List.length_singleton] at ih
      have e2 : ((n % 128 + 128 : Nat) : Int).toNat - 128 = n % 128 := by omega
      rw [e2, ih, List.length_cons]
      have e3 : acc + n % 128 * t + n / 128 * (t * 128) = acc + n * t := by
        have := Nat.div_add_mod n 128
        calc acc + n % 128 * t + n / 128 * (t * 128) = acc + (128 * (n / 128) + n % 128) * t := by rw [Nat.add_mul, Nat.mul_comm t 128, ← Nat.mul_assoc, Nat.mul_comm (n / 128) 128]; omega
          _ = acc + n * t := by rw [this]
      rw [e3, show pre.length + 1 + (natB (n / 128)).length = pre.length + ((natB (n / 128)).length + 1) from by rw [Nat.add_assoc, Nat.add_comm 1]]
theorem natAt_natB {n : Nat} (hn : n < 4398046511104) (pre post : List Int) : natAt (strOfNums (pre ++ natB n ++ post)) pre.length = some (n, pre.length + (natB n).length) := by
  have := natGo_natB 6 0 1 n pre post (by omega) (by omega) (by omega)
  rw [Nat.zero_add, Nat.mul_one] at this
  exact this

theorem rd_flat {pre post : List Int} {ns : List Nat} (hns : ∀ n ∈ ns, n < 4398046511104) : ∀ m, m ≤ ns.length →
    rd (strOfNums (pre ++ ns.flatMap natB ++ post)) pre.length m = some (ns.take m, pre.length + ((ns.take m).flatMap natB).length)
  | 0, _ => by simp [rd]
  | m + 1, hm => by
    have hlt : m < ns.length := by omega
    have hsplit : ns.flatMap natB = (ns.take m).flatMap natB ++ natB ns[m] ++ (ns.drop (m + 1)).flatMap natB := by
      have h1 : ns.flatMap natB = (ns.take m ++ ns.drop m).flatMap natB := by rw [List.take_append_drop]
      rw [h1, List.drop_eq_getElem_cons hlt, List.flatMap_append, List.flatMap_cons, List.append_assoc]
    have hn := natAt_natB (hns ns[m] (List.getElem_mem hlt)) (pre ++ (ns.take m).flatMap natB) ((ns.drop (m + 1)).flatMap natB ++ post)
    have hs : pre ++ (ns.take m).flatMap natB ++ natB ns[m] ++ ((ns.drop (m + 1)).flatMap natB ++ post) = pre ++ ns.flatMap natB ++ post := by rw [hsplit]; simp
    rw [hs, List.length_append] at hn
    rw [rd_some (rd_flat hns m (by omega)) hn, List.take_succ_eq_append_getElem hlt]
    rw [List.flatMap_append, List.flatMap_singleton, List.length_append, Nat.add_assoc]

def zigs (was : Int) : List Int → List Nat
  | [] => []
  | x :: xs => zig (x - was) :: zigs x xs
theorem zigs_len : ∀ (was : Int) (xs : List Int), (zigs was xs).length = xs.length
  | _, [] => rfl
  | _, x :: xs => by rw [zigs, List.length_cons, List.length_cons, zigs_len x xs]
theorem encFrom_zigs : ∀ (was : Int) (xs : List Int), encFrom was xs = (zigs was xs).flatMap natB
  | _, [] => rfl
  | was, x :: xs => by rw [encFrom, zigs, List.flatMap_cons, encFrom_zigs x xs]
theorem unzig_zig (d : Int) : unzig (zig d) = d := by
  unfold unzig zig
  by_cases h : d < 0
  · rw [if_pos h, if_pos (by omega)]; omega
  · rw [if_neg h, if_neg (by omega)]; omega
theorem zigs_sum : ∀ (was : Int) (xs : List Int) (i : Nat) (x : Int), xs[i]? = some x → (((zigs was xs).take (i + 1)).map unzig).sum = x - was
  | _, [], _, _, h => by simp at h
  | was, y :: xs, 0, x, h => by
    have : y = x := by simpa using h
    subst this
    rw [zigs]
    simp [unzig_zig]
  | was, y :: xs, i + 1, x, h => by
    have h2 : xs[i]? = some x := by simpa using h
    have ih := zigs_sum y xs i x h2
    rw [zigs, List.take_succ_cons, List.map_cons, List.sum_cons, ih, unzig_zig]
    omega
def numsK (l : List Ev) (k : Nat) : List Nat := (List.range k).flatMap fun c => zigs 0 (col l c)
theorem encCols_nums (l : List Ev) : ∀ k, encCols l k = natB l.length ++ (numsK l k).flatMap natB
  | 0 => by simp [encCols, numsK]
  | k + 1 => by
    rw [encCols, encCols_nums l k, encFrom_zigs, List.append_assoc]
    unfold numsK
    rw [List.range_succ, List.flatMap_append, List.flatMap_append, List.flatMap_singleton]
theorem blocks {α : Type} {f : Nat → List α} {n : Nat} (hf : ∀ i, (f i).length = n) {c m : Nat} (hm : m ≤ n) : ∀ k, c < k → (((List.range k).flatMap f).drop (c * n)).take m = (f c).take m
  | 0, h => absurd h (by omega)
  | k + 1, h => by
    have hl : ∀ k, ((List.range k).flatMap f).length = k * n := fun k => by
      induction k with
      | zero => simp
      | succ k ih => rw [List.range_succ, List.flatMap_append, List.length_append, ih, List.flatMap_singleton, hf, Nat.add_mul, Nat.one_mul]
    rw [List.range_succ, List.flatMap_append, List.flatMap_singleton]
    by_cases hk : c < k
    · have h1 : (c + 1) * n ≤ k * n := Nat.mul_le_mul_right n hk
      rw [Nat.add_mul, Nat.one_mul] at h1
      rw [List.drop_append_of_le_length (by rw [hl]; omega), List.take_append_of_le_length (by rw [List.length_drop, hl]; omega)]
      exact blocks hf hm k hk
    · obtain rfl : c = k := by omega
      rw [List.drop_append_of_le_length (by rw [hl]; exact Nat.le_refl _), List.drop_of_length_le (by rw [hl]; exact Nat.le_refl _), List.nil_append]
theorem numsK_len (l : List Ev) (k : Nat) : (numsK l k).length = k * l.length := by
  induction k with
  | zero => simp [numsK]
  | succ k ih =>
    unfold numsK at *
    rw [List.range_succ, List.flatMap_append, List.length_append, ih, List.flatMap_singleton, zigs_len, Nat.add_mul, Nat.one_mul]
    simp [col]
theorem val_nums {l : List Ev} {c i : Nat} {e : Ev} (hc : c < 6) (he : l[i]? = some e) : val (numsK l 6) l.length c i = colv e c := by
  have hi : i < l.length := (List.getElem?_eq_some_iff.1 he).1
  unfold val numsK
  rw [blocks (n := l.length) (fun c => by rw [zigs_len]; simp [col]) (by omega) 6 hc, zigs_sum 0 (col l c) i (colv e c) (by simp [col, he])]
  omega
theorem evsOf_nums (l : List Ev) : evsOfK (numsK l 6) l.length = l := by
  apply List.ext_getElem?
  intro i
  unfold evsOfK
  rw [List.getElem?_map]
  by_cases hi : i < l.length
  · rw [List.getElem?_range hi, List.getElem?_eq_getElem hi]
    have he : l[i]? = some l[i] := List.getElem?_eq_getElem hi
    unfold evAtK
    rw [Option.map_some, val_nums (by omega) he, val_nums (by omega) he, val_nums (by omega) he, val_nums (by omega) he, val_nums (by omega) he, val_nums (by omega) he]
    rfl
  · rw [List.getElem?_eq_none (by simp; omega), List.getElem?_eq_none (by omega)]
    rfl
theorem zigs_lt : ∀ (was : Int) (xs : List Int), isN was = true → (∀ x ∈ xs, isN x = true) → ∀ n ∈ zigs was xs, n < 4398046511104
  | _, [], _, _ => by simp [zigs]
  | was, x :: xs, hw, h => by
    intro n hn
    rw [zigs] at hn
    have hx := h x (by simp)
    rcases List.mem_cons.1 hn with rfl | hn
    · rw [isN_iff] at hw hx
      unfold zig
      split <;> omega
    · exact zigs_lt x xs hx (fun y hy => h y (by simp [hy])) n hn
/-- WHAT IS ENCODED IS DECODED AS IT WAS -/
theorem dec_enc {l : List Ev} (h : encErr l = 0) : decOf (encStr l) = (0, l) := by
  have hs : encStr l = strOfNums (encCols l 6) := by unfold encStr; rw [if_pos h]
  unfold encErr at h
  have hl : l.length ≤ 4000 := by
    by_cases h1 : 4000 < l.length
    · rw [if_pos h1] at h; omega
    · omega
  have hsm : l.all evSmall = true := by
    rw [if_neg (by omega)] at h
    by_cases h2 : l.all evSmall = true
    · exact h2
    · rw [if_neg h2] at h; omega
  rw [hs, encCols_nums]
  have h1 := natAt_natB (n := l.length) (by omega) [] ((numsK l 6).flatMap natB)
  rw [List.nil_append, List.length_nil, Nat.zero_add] at h1
  have hns : ∀ n ∈ numsK l 6, n < 4398046511104 := by
    intro n hn
    unfold numsK at hn
    obtain ⟨c, hc, hn⟩ := List.mem_flatMap.1 hn
    exact zigs_lt 0 _ rfl (col_small hsm (List.mem_range.1 hc)) n hn
  have h2 := rd_flat (pre := natB l.length) (post := []) hns (6 * l.length) (by rw [numsK_len]; exact Nat.le_refl _)
  rw [List.append_nil, List.take_of_length_le (by rw [numsK_len]; exact Nat.le_refl _)] at h2
  unfold decOf
  rw [h1]
  simp only [h2]
  rw [if_neg (by omega), if_neg (by rw [strOfNums_size, List.length_append]; omega), evsOf_nums, if_pos hsm]

end Go.Proofs.Ytkojeofegoljpaa

namespace Go.Proofs.Ytkojeofegoljpaa
open Go.RowKit

theorem smallT_len : (encStr smallT).size = 37 := by
  have h : encErr smallT = 0 := by unfold encErr; rw [if_neg (by decide), if_pos (by decide)]
  unfold encStr
  rw [if_pos h, strOfNums_size]
  simp [encCols, col, smallT, encFrom, colv, zig, natB_lo]

theorem columnBegun_any (w : World) : Calls Try.prog 29 #[] w fun r w' => r = .returned (.bool true) ∧ Bel w w' := by
  have hE : encErr smallT = 0 := by unfold encErr; rw [if_neg (by decide), if_pos (by decide)]
  have HD := Lib.hid (dec_enc hE)
  have HE := Lib.hid hE; clear hE
  have hS := smallT_len
  go_enter Try.func29, Try.ntmps29
  go_wp2_with fail
  refine (smallTrace_any _).mono ?_
  rintro e w1 ⟨u1, rfl, hs1, hb1⟩
  have HB1 := Lib.hid hb1; have HS1 := Lib.hid hs1; clear hb1 hs1
  go_wp2_with fail
  refine (encode_any _ smallT _ HS1.out (by unfold ok64; decide)).mono ?_
  rintro e w2 ⟨rfl, hb2⟩
  rw [HE.out]
  have HB2 := Lib.hid (HB1.out.tr hb2); clear hb2 HB1 HS1
  go_wp2_with fail
  refine (decode_any _ _ (by rw [smallT_len]; unfold ok64; decide)).mono ?_
  rintro e w3 ⟨v3, rfl, hs3, hb3⟩
  rw [HD.out] at hs3 ⊢
  have HB3 := Lib.hid (HB2.out.tr hb3); have HS3 := Lib.hid hs3; clear hb3 hs3 HB2
  go_wp2_with fail
  refine (smallTrace_any _).mono ?_
  rintro e w4 ⟨u4, rfl, hs4, hb4⟩
  have HB4 := Lib.hid (HB3.out.tr hb4); have HS4 := Lib.hid hs4; have HS3 := Lib.hid (HS3.out.keep hb4); clear hb4 hs4 HB3
  go_wp2_with fail
  refine (sameEvents_any _ _ smallT smallT _ HS3.out HS4.out (by unfold ok64; decide) (by unfold ok64; decide)).mono ?_
  rintro e w5 ⟨rfl, hb5⟩
  have HB5 := Lib.hid (HB4.out.tr hb5); clear hb5
  simp only [decide_true]
  go_wp2
  go_ret
  exact ⟨ret_bool (by simp), HB5.out⟩

end Go.Proofs.Ytkojeofegoljpaa
