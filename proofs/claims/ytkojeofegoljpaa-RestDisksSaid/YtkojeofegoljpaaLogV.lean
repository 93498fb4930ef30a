/- What was appended is loaded: plain law. Each lemma states its own conditions. -/
import Derived.Test.YtkojeofegoljpaaLogU
namespace Go.Proofs.Ytkojeofegoljpaa
open Go.RowKit

theorem hd_cases (k : List ByteArray) (i : Nat) (p : Int × Int) : hd k i p = p ∨ ∃ s n1 n2, k[i]? = some s ∧ numAt s 1 = n1 ∧ p.1 < n1 ∧ n1 % 2 = i ∧ hd k i p = (n1, n2) := by
  rw [hd]
  cases hs : k[i]? with
  | none => exact .inl rfl
  | some s =>
    simp only []
    by_cases hc : isSec s 1001 ∧ p.1 < numAt s 1 ∧ numAt s 1 % 2 = i ∧ 2 ≤ numAt s 2 ∧ numAt s 2 ≤ k.length
    · rw [if_pos hc]
      exact .inr ⟨s, _, _, rfl, rfl, hc.2.1, hc.2.2.1, rfl⟩
    · rw [if_neg hc]
      exact .inl rfl
theorem hd_at {k : List ByteArray} {i : Nat} {p : Int × Int} {s : ByteArray} {n1 n2 : Int} (hs : k[i]? = some s) (h : isSec s 1001) (e1 : numAt s 1 = n1) (e2 : numAt s 2 = n2) (h1 : p.1 < n1) (h2 : n1 % 2 = i) (h3 : 2 ≤ n2) (h4 : n2 ≤ k.length) : hd k i p = (n1, n2) := by
  subst e1
  subst e2
  rw [hd, hs]
  simp only []
  rw [if_pos ⟨h, h1, h2, h3, h4⟩]
theorem hd_not {k : List ByteArray} {i : Nat} {p : Int × Int} (h : ∀ s n, k[i]? = some s → numAt s 1 = n → ¬ p.1 < n) : hd k i p = p := by
  rcases hd_cases k i p with h1 | ⟨s, n, _, h1, h3, h2, _⟩
  · exact h1
  · exact absurd h2 (h s n h1 h3)
theorem hd_keep {k k' : List ByteArray} {i : Nat} (hi : k'[i]? = k[i]?) (hl : k'.length = k.length) (p : Int × Int) : hd k' i p = hd k i p := by rw [hd, hd, hi, hl]
theorem heads_two_eq (x : List ByteArray) : heads x 2 = hd x 1 (hd x 0 (-1, 0)) := rfl
/-- the heads, one turn further -/
theorem heads_next {k k' : List ByteArray} {t : Int} {u u' : Nat} {s : ByteArray} (hl : k'.length = k.length) (h0 : 0 ≤ t) (hh : heads k 2 = (t, (u : Int))) (hs : k'[((t + 1) % 2).toNat]? = some s) (ho : k'[(t % 2).toNat]? = k[(t % 2).toNat]?)
    (i1 : isSec s 1001) (i2 : Hid (numAt s 1 = t + 1)) (i3 : Hid (numAt s 2 = u')) (h2 : 2 ≤ u') (h3 : u' ≤ k.length) : heads k' 2 = (t + 1, (u' : Int)) := by
  rw [heads_two_eq] at hh ⊢
  have hl2 : (u' : Int) ≤ k'.length := by omega
  have hm : t % 2 = 0 ∨ t % 2 = 1 := by omega
  rcases hm with hm | hm
  · have hm1 : (t + 1) % 2 = 1 := by omega
    rw [hm] at ho
    rw [hm1] at hs
    have ho : k'[0]? = k[0]? := ho
    have hs : k'[1]? = some s := hs
    have hp : hd k 0 (-1, 0) = (t, (u : Int)) := by
      rcases hd_cases k 1 (hd k 0 (-1, 0)) with e | ⟨s1, n1, n2, _, _, _, e1, e⟩
      · rw [← e]; exact hh
      · rw [hh] at e
        have : t = n1 := (Prod.mk.inj e).1
        exfalso
        rw [← this, hm] at e1
        exact absurd e1 (by decide)
    rw [hd_keep ho hl, hp]
    exact hd_at hs i1 i2.out i3.out (by show t < t + 1; omega) (by rw [hm1]; rfl) (by omega) hl2
  · have hm1 : (t + 1) % 2 = 0 := by omega
    rw [hm] at ho
    rw [hm1] at hs
    have ho : k'[1]? = k[1]? := ho
    have hs : k'[0]? = some s := hs
    have hn : hd k' 0 (-1, 0) = (t + 1, (u' : Int)) := hd_at hs i1 i2.out i3.out (by show (-1 : Int) < t + 1; omega) (by rw [hm1]; rfl) (by omega) hl2
    rw [hn]
    refine hd_not fun s1 n hs1 hn1 => ?_
    have hs1' : k[1]? = some s1 := ho.symm.trans hs1
    show ¬ t + 1 < n
    have hn2 := Lib.hid hn1
    clear hn1 hn i1
    rcases hd_cases k 1 (hd k 0 (-1, 0)) with e | ⟨s2, n2, m2, e2, e3, _, _, e⟩
    · rw [hh] at e
      rcases hd_cases k 0 (-1, 0) with f | ⟨s3, n3, m3, _, _, _, f1, f⟩
      · rw [f] at e
        have : t = -1 := (Prod.mk.inj e).1
        omega
      · rw [f] at e
        have : t = n3 := (Prod.mk.inj e).1
        exfalso
        rw [← this, hm] at f1
        exact absurd f1 (by decide)
    · rw [hh] at e
      have h3 : t = n2 := (Prod.mk.inj e).1
      rw [hs1'] at e2
      obtain rfl := Option.some.inj e2
      have h4 : n2 = n := e3.symm.trans hn2.out
      clear e3
      omega
theorem evsOf_in {k k' : List ByteArray} {lo u : Nat} (h : ∀ i, lo ≤ i → i < u → k'[i]? = k[i]?) : ∀ (n a : Nat), lo ≤ a → a + n ≤ u → evsOf k' a n = evsOf k a n
  | 0, _, _, _ => rfl
  | n + 1, a, hlo, hn => by
    have ih := evsOf_in h n (a + 1) (by omega) (by omega)
    rw [evsOf, evsOf, evAt, evAt, h a hlo (by omega), ih]
theorem batchOf_grow {k k' : List ByteArray} {lo u u' : Nat} (h : ∀ i, lo ≤ i → i < u → k'[i]? = k[i]?) {a : Nat} (hlo : lo ≤ a) (ha : a < u) (hu : u ≤ u') {p : List Ev × Nat} (hb : batchOf k a u = some p) : batchOf k' a u' = some p := by
  unfold batchOf at hb ⊢
  rw [h a hlo ha]
  cases hs : k[a]? with
  | none => rw [hs] at hb; cases hb
  | some s =>
    rw [hs, Option.bind_some] at hb
    rw [Option.bind_some]
    generalize numAt s 1 = n at *
    by_cases hc : isSec s 1002 ∧ 0 ≤ n ∧ n ≤ 60 ∧ n ≤ (u : Int) - a - 1
    · rw [if_pos hc] at hb
      rw [if_pos ⟨hc.1, hc.2.1, hc.2.2.1, by omega⟩, evsOf_in h _ _ (by omega) (by omega)]
      exact hb
    · rw [if_neg hc] at hb
      cases hb
theorem bats_grow {k k' : List ByteArray} {u u' : Nat} {l : List Ev} (h : ∀ i, 2 ≤ i → i < u → k'[i]? = k[i]?) (hu : u < u') (hn : batchOf k' u u' = some (l, u')) : ∀ (f f' a : Nat) (bs : List (List Ev)), 2 ≤ a → a ≤ u → u - a < f → u' - a < f' → bats k u f a = some bs → bats k' u' f' a = some (bs ++ [l])
  | 0, _, _, _, _, _, hf, _, _ => by omega
  | f + 1, f', a, bs, h2, ha, hf, hf', hb => by
    obtain ⟨g, rfl⟩ : ∃ g, f' = g + 1 := ⟨f' - 1, by omega⟩
    rw [bats_succ] at hb ⊢
    rw [if_pos (show a < u' by omega)]
    by_cases hau : a < u
    · rw [if_pos hau] at hb
      cases hbo : batchOf k a u with
      | none => rw [hbo] at hb; cases hb
      | some p =>
        obtain ⟨x, e⟩ := p
        obtain ⟨e1, e2, _⟩ := batchOf_in hbo
        rw [hbo, Option.bind_some] at hb
        rw [batchOf_grow h h2 hau (by omega) hbo, Option.bind_some]
        simp only [] at hb ⊢
        cases hr : bats k u f e with
        | none => rw [hr] at hb; cases hb
        | some ys =>
          rw [hr] at hb
          obtain rfl := Option.some.inj hb
          rw [bats_grow h hu hn f g e ys (by omega) e2 (by omega) (by omega) hr]
          rfl
    · rw [if_neg hau] at hb
      obtain rfl := Option.some.inj hb
      obtain rfl : a = u := by omega
      rw [hn, Option.bind_some]
      simp only []
      obtain ⟨g', rfl⟩ : ∃ g', g = g' + 1 := ⟨g - 1, by omega⟩
      rw [bats_end]
      rfl
theorem loadOf_parts {k : List ByteArray} {t : Int} {u : Nat} {bs : List (List Ev)} (h : loadOf k = some (t, u, bs)) : heads k 2 = (t, (u : Int)) ∧ bats k u 601 2 = some bs := by
  have hu := (loadOf_in h).2.2.1
  unfold loadOf at h
  split at h
  · cases h
  · rename_i hn
    obtain ⟨_, h3, _⟩ := heads_in k 2
    have h4 := h3 (by omega)
    cases hb : bats k (heads k 2).2.toNat 601 2 with
    | none => rw [hb] at h; cases h
    | some b =>
      rw [hb] at h
      simp only [Option.map_some, Option.some.injEq, Prod.mk.injEq] at h
      obtain ⟨rfl, rfl, rfl⟩ := h
      refine ⟨?_, hb⟩
      refine Prod.ext rfl ?_
      show (heads k 2).2 = (((heads k 2).2.toNat : Nat) : Int)
      omega
theorem appF_kept {d : Dk} {t : Int} {u : Nat} {l : List Ev} (he : d.err = 0) (hl : l.length ≤ 60) (hu : u + 1 + l.length ≤ d.kept.length) (hu2 : 2 ≤ u) :
    (appF d.kept t u l).kept = (crs (fun _ => true) 0 (bodyW u l) d.kept).set ((t + 1) % 2).toNat (headS t u l) := by
  have h1 := bodyD_err he hl hu
  have h2 := appH_err (t := t) he hl hu hu2
  rw [appF, Dk.flushed, if_pos h2]
  unfold appH
  rw [Dk.flushed, if_pos h1]
  rfl
/-- what was appended is loaded -/
theorem load_new {d : Dk} {t : Int} {u : Nat} {bs : List (List Ev)} {l : List Ev} (he : d.err = 0) (h : loadOf d.kept = some (t, u, bs)) (ht : t < 2147483647) (hs : l.all evSmall = true) (hl : l.length ≤ 60) (hu : u + 1 + l.length ≤ d.kept.length) :
    loadOf (appF d.kept t u l).kept = some (t + 1, u + 1 + l.length, bs ++ [l]) := by
  obtain ⟨ht0, ht1, hu2, hul⟩ := loadOf_in h
  obtain ⟨hh, hb⟩ := loadOf_parts h
  have hk6 := (Dk.err_small he).1
  rw [appF_kept he hl hu hu2]
  obtain ⟨b1, b2⟩ := body_there hu
  have hsm := crs_same (u := u) (fun _ => true) (bodyW u l) 0 d.kept (fun x hx => bodyW_from hx)
  generalize crs (fun _ => true) 0 (bodyW u l) d.kept = kb at *
  obtain ⟨hkl, hks⟩ := hsm
  have hp : ((t + 1) % 2).toNat < 2 := by omega
  have hq : (t % 2).toNat < 2 ∧ (t % 2).toNat ≠ ((t + 1) % 2).toNat := by omega
  have i1 : isSec (headS t u l) 1001 := secS_isSec (by simp) (wrap32_id (by omega))
  have i2 : Hid (numAt (headS t u l) 1 = t + 1) := Lib.hid (by
    rw [headS, secS_num (i := 1) (x := t + 1) rfl]
    exact wrap32_id (by omega))
  have i3 : Hid (numAt (headS t u l) 2 = ((u + 1 + l.length : Nat) : Int)) := Lib.hid (by
    rw [headS, secS_num (i := 2) (x := ((u + 1 + l.length : Nat) : Int)) rfl]
    exact wrap32_id (by omega))
  generalize headS t u l = hS at *
  have k2l : (kb.set ((t + 1) % 2).toNat hS).length = d.kept.length := by rw [List.length_set, hkl]
  have k2p : (kb.set ((t + 1) % 2).toNat hS)[((t + 1) % 2).toNat]? = some hS := List.getElem?_set_self (by rw [hkl]; omega)
  have k2n : ∀ i, i ≠ ((t + 1) % 2).toNat → (kb.set ((t + 1) % 2).toNat hS)[i]? = kb[i]? := fun i hi => List.getElem?_set_ne (fun e => hi e.symm)
  have hhn := heads_next (k := d.kept) k2l ht0 hh k2p ((k2n _ hq.2).trans (hks _ (by omega))) i1 i2 i3 (by omega) hu
  have hbn : batchOf (kb.set ((t + 1) % 2).toNat hS) u (u + 1 + l.length) = some (l, u + 1 + l.length) :=
    batchOf_new ((k2n u (by omega)).trans b1) (fun j e hj => (k2n _ (by omega)).trans (b2 j e hj)) hs hl (Nat.le_refl _)
  have hbb := bats_grow (k := d.kept) (u := u) (u' := u + 1 + l.length) (l := l) (fun i h1 h2 => (k2n i (by omega)).trans (hks i h2)) (by omega) hbn 601 601 2 bs (Nat.le_refl _) hu2 (by omega) (by omega) hb
  clear i1 i2 i3 b1 b2 hbn hb hh h
  generalize kb.set ((t + 1) % 2).toNat hS = k2 at *
  unfold loadOf
  rw [hhn]
  simp only []
  rw [if_neg (by omega), Int.toNat_natCast, hbb]
  rfl

end Go.Proofs.Ytkojeofegoljpaa
