/- What a crash on the way leaves: plain law. Each lemma states its own conditions. -/
import Derived.Test.YtkojeofegoljpaaLogR
namespace Go.Proofs.Ytkojeofegoljpaa
open Go.RowKit

/-- sectors below a place are the same -/
def SameTo (u : Nat) (k k' : List ByteArray) : Prop := k'.length = k.length ∧ ∀ i, i < u → k'[i]? = k[i]?
theorem SameTo.rfl_ (u : Nat) (k : List ByteArray) : SameTo u k k := ⟨rfl, fun _ _ => rfl⟩
theorem SameTo.trans {u : Nat} {a b c : List ByteArray} (h : SameTo u a b) (k : SameTo u b c) : SameTo u a c := ⟨k.1.trans h.1, fun i hi => (k.2 i hi).trans (h.2 i hi)⟩
theorem evsOf_same {k k' : List ByteArray} {u : Nat} (h : SameTo u k k') : ∀ (n a : Nat), a + n ≤ u → evsOf k' a n = evsOf k a n
  | 0, _, _ => rfl
  | n + 1, a, hn => by
    rw [evsOf, evsOf, evAt, evAt, h.2 a (by omega), evsOf_same h n (a + 1) (by omega)]
theorem batchOf_same {k k' : List ByteArray} {u : Nat} (h : SameTo u k k') {a used : Nat} (ha : a < u) (hu : used ≤ u) : batchOf k' a used = batchOf k a used := by
  unfold batchOf
  rw [h.2 a ha]
  congr 1
  funext s
  generalize numAt s 1 = n
  by_cases hc : isSec s 1002 ∧ 0 ≤ n ∧ n ≤ 60 ∧ n ≤ (used : Int) - a - 1
  · rw [if_pos hc, if_pos hc, evsOf_same h _ _ (by omega)]
  · rw [if_neg hc, if_neg hc]
theorem bats_succ (k : List ByteArray) (u f a : Nat) : bats k u (f + 1) a = if a < u then (batchOf k a u).bind fun p => (bats k u f p.2).map (p.1 :: ·) else some [] := rfl
theorem bats_same {k k' : List ByteArray} {u : Nat} (h : SameTo u k k') : ∀ (f a : Nat), bats k' u f a = bats k u f a
  | 0, _ => rfl
  | f + 1, a => by
    have ih := bats_same h f
    rw [bats_succ, bats_succ]
    by_cases ha : a < u
    · rw [if_pos ha, if_pos ha, batchOf_same h ha (Nat.le_refl _)]
      congr 1
      funext p
      rw [ih]
    · rw [if_neg ha, if_neg ha]
theorem hd_same {k k' : List ByteArray} {u : Nat} (h : SameTo u k k') {i : Nat} (hi : i < u) (p : Int × Int) : hd k' i p = hd k i p := by
  rw [hd, hd, h.2 i hi, h.1]
theorem loadOf_same {k k' : List ByteArray} {t : Int} {u : Nat} {bs : List (List Ev)} (h : SameTo u k k') (hl : loadOf k = some (t, u, bs)) : loadOf k' = some (t, u, bs) := by
  have hu := (loadOf_in hl).2.2.1
  have hh : heads k' 2 = heads k 2 := by
    rw [heads, heads, heads, hd_same h (by omega), hd_same h (by omega)]
    rfl
  have hu2 : (heads k 2).2.toNat = u := by
    unfold loadOf at hl
    split at hl
    · cases hl
    · cases hb : bats k (heads k 2).2.toNat 601 2 with
      | none => rw [hb] at hl; cases hl
      | some b =>
        rw [hb] at hl
        simp only [Option.map_some, Option.some.injEq, Prod.mk.injEq] at hl
        exact hl.2.1
  unfold loadOf at hl ⊢
  rw [hu2] at hl
  rw [hh, hu2, bats_same h]
  exact hl
/-- what is written beyond stays beyond -/
theorem crs_same (f : Nat → Bool) {u : Nat} : ∀ (ws : List Wr) (i : Nat) (k : List ByteArray), (∀ x ∈ ws, (u : Int) ≤ x.sector) → SameTo u k (crs f i ws k)
  | [], _, k, _ => SameTo.rfl_ u k
  | x :: ws, i, k, h => by
    rw [crs]
    refine SameTo.trans ?_ (crs_same f ws (i + 1) _ fun y hy => h y (by simp [hy]))
    split
    · refine ⟨List.length_set .., fun j hj => ?_⟩
      have := h x (by simp)
      rw [List.getElem?_set_ne (by omega)]
    · exact SameTo.rfl_ u k
theorem evW_from : ∀ (l : List Ev) (a : Nat) (x : Wr), x ∈ evW a l → (a : Int) ≤ x.sector
  | [], _, _, h => by simp [evW] at h
  | e :: l, a, x, h => by
    rw [evW] at h
    rcases List.mem_cons.1 h with rfl | h
    · exact Int.le_refl _
    · have := evW_from l (a + 1) x h
      omega
theorem bodyW_from {u : Nat} {l : List Ev} {x : Wr} (h : x ∈ bodyW u l) : (u : Int) ≤ x.sector := by
  rcases List.mem_cons.1 h with rfl | h
  · exact Int.le_refl _
  · have := evW_from l (u + 1) x h
    omega
/-- what is written is there -/
theorem crs_evW : ∀ (l : List Ev) (a i : Nat) (k : List ByteArray), a + l.length ≤ k.length → ∀ (j : Nat) e, l[j]? = some e → (crs (fun _ => true) i (evW a l) k)[a + j]? = some (evSec e)
  | [], _, _, _, _, j, e, h => by simp at h
  | x :: l, a, i, k, hk, j, e, h => by
    rw [List.length_cons] at hk
    rw [evW, crs, if_pos rfl]
    cases j with
    | zero =>
      obtain rfl : x = e := by simpa using h
      show (crs (fun _ => true) (i + 1) (evW (a + 1) l) (k.set ((a : Int).toNat) (evSec x)))[a]? = some (evSec x)
      have hs := (crs_same (u := a + 1) (fun _ => true) (evW (a + 1) l) (i + 1) (k.set ((a : Int).toNat) (evSec x)) (fun y hy => evW_from l (a + 1) y hy)).2 a (by omega)
      rw [hs, Int.toNat_natCast, List.getElem?_set_self (by omega)]
    | succ j =>
      have := crs_evW l (a + 1) (i + 1) (k.set ((a : Int).toNat) (evSec x)) (by rw [List.length_set]; omega) j e (by simpa using h)
      rwa [show a + 1 + j = a + (j + 1) by omega] at this
theorem body_there {k : List ByteArray} {u : Nat} {l : List Ev} (hk : u + 1 + l.length ≤ k.length) : (crs (fun _ => true) 0 (bodyW u l) k)[u]? = some (secS 1002 [l.length]) ∧ ∀ (j : Nat) e, l[j]? = some e → (crs (fun _ => true) 0 (bodyW u l) k)[u + 1 + j]? = some (evSec e) := by
  rw [bodyW, crs, if_pos rfl]
  show (crs (fun _ => true) (0 + 1) (evW (u + 1) l) (k.set ((u : Int).toNat) (secS 1002 [l.length])))[u]? = _ ∧ _
  refine ⟨?_, fun j e h => crs_evW l (u + 1) 1 _ (by rw [List.length_set]; omega) j e h⟩
  have hs := (crs_same (u := u + 1) (fun _ => true) (evW (u + 1) l) (0 + 1) (k.set ((u : Int).toNat) (secS 1002 [l.length])) (fun y hy => evW_from l (u + 1) y hy)).2 u (by omega)
  rw [hs, Int.toNat_natCast, List.getElem?_set_self (by omega)]

end Go.Proofs.Ytkojeofegoljpaa
