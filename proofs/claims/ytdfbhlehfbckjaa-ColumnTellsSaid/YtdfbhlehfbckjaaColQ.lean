/- What is decoded is encoded as it was: plain words. Each lemma states its own conditions. -/
import Derived.Test.YtdfbhlehfbckjaaColP
namespace Go.Proofs.Ytdfbhlehfbckjaa
open Go.RowKit

def bts (s : ByteArray) : List Int := s.data.toList.map fun b => (b.toNat : Int)
theorem bts_len (s : ByteArray) : (bts s).length = s.size := by rw [bts, List.length_map]; rfl
theorem bts_str (s : ByteArray) : strOfNums (bts s) = s := by
  unfold strOfNums bts
  rw [List.map_map]
  have : (fun n : Int => UInt8.ofNat n.toNat) ∘ (fun b : UInt8 => (b.toNat : Int)) = id := by
    funext b
    simp
  rw [this, List.map_id]
theorem bts_at {s : ByteArray} {i : Nat} (h : i < s.size) : (bts s)[i]? = some ((s[i].toNat : Nat) : Int) := by
  unfold bts
  rw [List.getElem?_map, List.getElem?_eq_getElem (by simpa using h)]
  rfl
theorem cut_one {l : List Int} {i : Nat} {b : Int} (h : l[i]? = some b) : (l.drop i).take 1 = [b] := by
  obtain ⟨hi, rfl⟩ := List.getElem?_eq_some_iff.1 h
  rw [List.drop_eq_getElem_cons hi]
  rfl
theorem cut_more {l : List Int} {i q : Nat} {b : Int} (h : l[i]? = some b) (hq : i < q) : (l.drop i).take (q - i) = b :: (l.drop (i + 1)).take (q - (i + 1)) := by
  obtain ⟨hi, rfl⟩ := List.getElem?_eq_some_iff.1 h
  rw [List.drop_eq_getElem_cons hi, show q - i = (q - (i + 1)) + 1 by omega, List.take_succ_cons]
theorem natGo_back {s : ByteArray} {a q : Nat} : ∀ (f i acc t : Nat), acc < t → natGo s f i acc t = some (a, q) → ∃ n, a = acc + n * t ∧ ((bts s).drop i).take (q - i) = natB n ∧ (1 < t → 0 < n) ∧ i < q
  | 0, _, _, _, _, h => by cases h
  | f + 1, i, acc, t, hat, h => by
    by_cases hi : i < s.size
    · by_cases hb : s[i].toNat < 128
      · rw [natGo_lo hi hb] at h
        split at h
        · cases h
        · rename_i hz
          injection h with h
          injection h with h1 h2
          subst h1 h2
          refine ⟨s[i].toNat, rfl, ?_, fun h1 => by omega, by omega⟩
          rw [natB_lo hb, show i + 1 - i = 1 by omega, cut_one (bts_at hi)]
      · rw [natGo_hi hi hb] at h
        have hlt := s[i].toNat_lt
        have h3 : (s[i].toNat - 128) * t ≤ 127 * t := Nat.mul_le_mul_right t (by omega)
        obtain ⟨n, h1, h2, h4, h5⟩ := natGo_back f (i + 1) (acc + (s[i].toNat - 128) * t) (t * 128) (by omega) h
        have hn := h4 (by omega)
        refine ⟨n * 128 + (s[i].toNat - 128), ?_, ?_, fun _ => by omega, by omega⟩
        · rw [h1, Nat.add_mul, Nat.mul_assoc, Nat.mul_comm 128 t]
          omega
        · rw [natB_hi (by omega), cut_more (bts_at hi) (by omega), h2]
          have e1 : (n * 128 + (s[i].toNat - 128)) % 128 + 128 = s[i].toNat := by omega
          have e2 : (n * 128 + (s[i].toNat - 128)) / 128 = n := by omega
          rw [e1, e2]
    · rw [natGo_end hi] at h
      cases h
theorem natAt_back {s : ByteArray} {i n q : Nat} (h : natAt s i = some (n, q)) : ((bts s).drop i).take (q - i) = natB n ∧ i < q := by
  obtain ⟨m, h1, h2, _, h3⟩ := natGo_back 6 i 0 1 (by omega) h
  obtain rfl : n = m := by omega
  exact ⟨h2, h3⟩
theorem take_cut {l : List Int} {i q : Nat} (h : i ≤ q) : l.take q = l.take i ++ (l.drop i).take (q - i) := by
  have := List.take_add (l := l) (i := i) (j := q - i)
  rw [show i + (q - i) = q by omega] at this
  exact this
theorem rd_back {s : ByteArray} {p : Nat} : ∀ (m : Nat) (l : List Nat) (e : Nat), rd s p m = some (l, e) → (bts s).take e = (bts s).take p ++ l.flatMap natB ∧ p ≤ e
  | 0, l, e, h => by
    rw [rd] at h
    injection h with h
    injection h with h1 h2
    subst h1 h2
    exact ⟨by simp, Nat.le_refl _⟩
  | m + 1, l, e, h => by
    rw [rd] at h
    split at h
    · cases h
    · rename_i l' e' hr
      split at h
      · cases h
      · rename_i n to hn
        injection h with h
        injection h with h1 h2
        subst h1 h2
        obtain ⟨g1, g2⟩ := rd_back m l' e' hr
        obtain ⟨k1, k2⟩ := natAt_back hn
        refine ⟨?_, by omega⟩
        rw [take_cut (i := e') (by omega), g1, k1, List.flatMap_append, List.flatMap_singleton, List.append_assoc]

theorem zig_unzig (n : Nat) : zig (unzig n) = n := by
  unfold unzig zig
  by_cases h : n % 2 = 1
  · rw [if_pos h, if_pos (by omega)]; omega
  · rw [if_neg h, if_neg (by omega)]; omega
def psums (was : Int) : List Nat → List Int
  | [] => []
  | x :: xs => (was + unzig x) :: psums (was + unzig x) xs
theorem psums_len : ∀ (was : Int) (xs : List Nat), (psums was xs).length = xs.length
  | _, [] => rfl
  | was, x :: xs => by rw [psums, List.length_cons, List.length_cons, psums_len]
theorem zigs_psums : ∀ (was : Int) (xs : List Nat), zigs was (psums was xs) = xs
  | _, [] => rfl
  | was, x :: xs => by
    rw [psums, zigs, zigs_psums, show was + unzig x - was = unzig x by omega, zig_unzig]
theorem psums_at : ∀ (was : Int) (xs : List Nat) (i : Nat), i < xs.length → (psums was xs)[i]? = some (was + ((xs.take (i + 1)).map unzig).sum)
  | _, [], _, h => by simp at h
  | was, x :: xs, 0, _ => by simp [psums]
  | was, x :: xs, i + 1, h => by
    rw [psums, List.getElem?_cons_succ, psums_at (was + unzig x) xs i (by simpa using h), List.take_succ_cons, List.map_cons, List.sum_cons]
    congr 1
    omega
theorem col_evs {l : List Nat} {many c : Nat} (hl : l.length = 6 * many) (hc : c < 6) : col (evsOf l many) c = psums 0 ((l.drop (c * many)).take many) := by
  have hcm : (c + 1) * many ≤ 6 * many := Nat.mul_le_mul_right many hc
  rw [Nat.add_mul, Nat.one_mul] at hcm
  have hlen : ((l.drop (c * many)).take many).length = many := by rw [List.length_take, List.length_drop]; omega
  apply List.ext_getElem?
  intro i
  by_cases hi : i < many
  · rw [psums_at 0 _ i (by omega)]
    have hv : (col (evsOf l many) c)[i]? = some (colv (evAt l many i) c) := by
      unfold col evsOf
      rw [List.getElem?_map, List.getElem?_map, List.getElem?_range hi]
      rfl
    rw [hv, List.take_take, Nat.min_eq_left (by omega), Int.zero_add]
    congr 1
    match c, hc with
    | 0, _ | 1, _ | 2, _ | 3, _ | 4, _ | 5, _ => rfl
  · rw [List.getElem?_eq_none (by simp [col, evsOf]; omega), List.getElem?_eq_none (by rw [psums_len]; omega)]
theorem blocks_all {l : List Nat} {n : Nat} : ∀ k, k * n ≤ l.length → ((List.range k).flatMap fun c => (l.drop (c * n)).take n) = l.take (k * n)
  | 0, _ => by simp
  | k + 1, h => by
    rw [Nat.add_mul, Nat.one_mul] at h ⊢
    rw [List.range_succ, List.flatMap_append, blocks_all k (by omega), List.flatMap_singleton, List.take_add]
theorem numsK_evs {l : List Nat} {many : Nat} (hl : l.length = 6 * many) : numsK (evsOf l many) 6 = l := by
  have h1 : numsK (evsOf l many) 6 = (List.range 6).flatMap fun c => (l.drop (c * many)).take many := by
    unfold numsK
    rw [List.flatMap_def, List.flatMap_def]
    congr 1
    refine List.map_congr_left fun c hc => ?_
    rw [col_evs hl (List.mem_range.1 hc), zigs_psums]
  rw [h1, blocks_all 6 (by omega), List.take_of_length_le (by omega)]
/-- WHAT IS DECODED IS ENCODED AS IT WAS -/
theorem enc_dec {s : ByteArray} {L : List Ev} (h : decOf s = (0, L)) : encErr L = 0 ∧ encStr L = s := by
  unfold decOf at h
  cases hN : natAt s 0 with
  | none => rw [hN] at h; cases h
  | some x =>
    obtain ⟨many, a⟩ := x
    rw [hN] at h
    simp only at h
    by_cases hm : 4000 < many
    · rw [if_pos hm] at h; cases h
    · rw [if_neg hm] at h
      cases hr : rd s a (6 * many) with
      | none => rw [hr] at h; cases h
      | some y =>
        obtain ⟨l, e⟩ := y
        rw [hr] at h
        simp only at h
        by_cases he : e < s.size
        · rw [if_pos he] at h; cases h
        · rw [if_neg he] at h
          by_cases hsm : (evsOf l many).all evSmall = true
          · rw [if_pos hsm] at h
            injection h with _ h
            subst h
            obtain ⟨_, _, has⟩ := natAt_lt hN
            obtain ⟨hl, hes, _⟩ := rd_facts has _ _ _ hr
            have hlen : (evsOf l many).length = many := by simp [evsOf]
            have hE : encErr (evsOf l many) = 0 := by unfold encErr; rw [hlen, if_neg (by omega), if_pos hsm]
            refine ⟨hE, ?_⟩
            unfold encStr
            rw [if_pos hE, encCols_nums, hlen, numsK_evs hl]
            have h1 := (natAt_back hN).1
            have h2 := (rd_back _ _ _ hr).1
            rw [List.drop_zero, Nat.sub_zero] at h1
            rw [h1, List.take_of_length_le (by rw [bts_len]; omega)] at h2
            rw [← h2, bts_str]
          · rw [if_neg hsm] at h
            cases h

end Go.Proofs.Ytdfbhlehfbckjaa
