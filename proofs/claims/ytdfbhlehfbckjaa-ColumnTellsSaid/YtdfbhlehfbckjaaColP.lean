/- What is encoded is decoded as it was: plain words. Each lemma states its own conditions. -/
import Derived.Test.YtdfbhlehfbckjaaColM
namespace Go.Proofs.Ytdfbhlehfbckjaa
open Go.RowKit

theorem byte_str {xs : List Int} {i : Nat} {b : Int} (hb : xs[i]? = some b) (h0 : 0 ≤ b) (h1 : b < 256) : ∃ h : i < (strOfNums xs).size, (strOfNums xs)[i].toNat = b.toNat := by
  obtain ⟨hi, rfl⟩ := List.getElem?_eq_some_iff.1 hb
  have hs : i < (strOfNums xs).size := by rw [strOfNums_size]; exact hi
  refine ⟨hs, ?_⟩
  have : (strOfNums xs)[i] = UInt8.ofNat (xs[i]).toNat := by
    show (strOfNums xs).data[i] = _
    simp [strOfNums]
  rw [this, UInt8.toNat_ofNat']
  omega

theorem natGo_natB : ∀ (f acc t n : Nat) (pre post : List Int), n < 128 ^ f → (1 < t → 0 < n) → 0 < f →
    natGo (strOfNums (pre ++ natB n ++ post)) f pre.length acc t = some (acc + n * t, pre.length + (natB n).length)
  | 0, _, _, _, _, _, _, _, h => absurd h (by omega)
  | f + 1, acc, t, n, pre, post, hn, ht, _ => by
    by_cases hlo : n < 128
    · rw [natB_lo hlo]
      obtain ⟨h, hb⟩ := byte_str (xs := pre ++ [(n : Int)] ++ post) (i := pre.length) (b := n) (by simp) (by omega) (by omega)
      rw [natGo_lo h (by omega), hb, if_neg (by omega)]
      simp
    · rw [natB_hi hlo]
      obtain ⟨h, hb⟩ := byte_str (xs := pre ++ (((n % 128 + 128 : Nat) : Int) :: natB (n / 128)) ++ post) (i := pre.length) (b := ((n % 128 + 128 : Nat) : Int)) (by simp) (by omega) (by omega)
      have hf : 0 < f := by
        rcases Nat.eq_zero_or_pos f with rfl | hf
        · simp at hn; omega
        · exact hf
      have ih := natGo_natB f (acc + (n % 128) * t) (t * 128) (n / 128) (pre ++ [((n % 128 + 128 : Nat) : Int)]) post (by rw [Nat.div_lt_iff_lt_mul (by omega)]; rw [Nat.pow_succ] at hn; exact hn) (fun _ => by omega) hf
      rw [natGo_hi h (by omega), hb]
      have e1 : pre ++ [((n % 128 + 128 : Nat) : Int)] ++ natB (n / 128) ++ post = pre ++ (((n % 128 + 128 : Nat) : Int) :: natB (n / 128)) ++ post := by simp
      rw [e1, List.length_append, List.length_singleton] at ih
      have e2 : ((n % 128 + 128 : Nat) : Int).toNat - 128 = n % 128 := by omega
      rw [e2, ih, List.length_cons]
      have e3 : acc + n % 128 * t + n / 128 * (t * 128) = acc + n * t := by
        have := Nat.div_add_mod n 128
        calc acc + n % 128 * t + n / 128 * (t * 128) = acc + (128 * (n / 128) + n % 128) * t := by rw [Nat.add_mul, Nat.mul_comm t 128, ← Nat.mul_assoc, Nat.mul_comm (n / 128) 128]; omega
          _ = acc + n * t := by rw [this]
      rw [e3, show pre.length + 1 + (natB (n / 128)).length = pre.length + ((natB (n / 128)).length + 1) from by rw [Nat.add_assoc, Nat.add_comm 1]]
theorem natAt_natB {n : Nat} (hn : n < 4398046511104) (pre post : List Int) : natAt (strOfNums (pre ++ natB n ++ post)) pre.length = some (n, pre.length + (natB n).length) := by
  have := natGo_natB 6 0 1 n pre post (by omega) (by omega) (by omega)
  rw [Nat.zero_add, Nat.mul_one] at this
  exact this

theorem rd_flat {pre post : List Int} {ns : List Nat} (hns : ∀ n ∈ ns, n < 4398046511104) : ∀ m, m ≤ ns.length →
    rd (strOfNums (pre ++ ns.flatMap natB ++ post)) pre.length m = some (ns.take m, pre.length + ((ns.take m).flatMap natB).length)
  | 0, _ => by simp [rd]
  | m + 1, hm => by
    have hlt : m < ns.length := by omega
    have hsplit : ns.flatMap natB = (ns.take m).flatMap natB ++ natB ns[m] ++ (ns.drop (m + 1)).flatMap natB := by
      have h1 : ns.flatMap natB = (ns.take m ++ ns.drop m).flatMap natB := by rw [List.take_append_drop]
      rw [h1, List.drop_eq_getElem_cons hlt, List.flatMap_append, List.flatMap_cons, List.append_assoc]
    have hn := natAt_natB (hns ns[m] (List.getElem_mem hlt)) (pre ++ (ns.take m).flatMap natB) ((ns.drop (m + 1)).flatMap natB ++ post)
    have hs : pre ++ (ns.take m).flatMap natB ++ natB ns[m] ++ ((ns.drop (m + 1)).flatMap natB ++ post) = pre ++ ns.flatMap natB ++ post := by rw [hsplit]; simp
    rw [hs, List.length_append] at hn
    rw [rd_some (rd_flat hns m (by omega)) hn, List.take_succ_eq_append_getElem hlt]
    rw [List.flatMap_append, List.flatMap_singleton, List.length_append, Nat.add_assoc]

def zigs (was : Int) : List Int → List Nat
  | [] => []
  | x :: xs => zig (x - was) :: zigs x xs
theorem zigs_len : ∀ (was : Int) (xs : List Int), (zigs was xs).length = xs.length
  | _, [] => rfl
  | _, x :: xs => by rw [zigs, List.length_cons, List.length_cons, zigs_len x xs]
theorem encFrom_zigs : ∀ (was : Int) (xs : List Int), encFrom was xs = (zigs was xs).flatMap natB
  | _, [] => rfl
  | was, x :: xs => by rw [encFrom, zigs, List.flatMap_cons, encFrom_zigs x xs]
theorem unzig_zig (d : Int) : unzig (zig d) = d := by
  unfold unzig zig
  by_cases h : d < 0
  · rw [if_pos h, if_pos (by omega)]; omega
  · rw [if_neg h, if_neg (by omega)]; omega
theorem zigs_sum : ∀ (was : Int) (xs : List Int) (i : Nat) (x : Int), xs[i]? = some x → (((zigs was xs).take (i + 1)).map unzig).sum = x - was
  | _, [], _, _, h => by simp at h
  | was, y :: xs, 0, x, h => by
    have : y = x := by simpa using h
    subst this
    rw [zigs]
    simp [unzig_zig]
  | was, y :: xs, i + 1, x, h => by
    have h2 : xs[i]? = some x := by simpa using h
    have ih := zigs_sum y xs i x h2
    rw [zigs, List.take_succ_cons, List.map_cons, List.sum_cons, ih, unzig_zig]
    omega
def numsK (l : List Ev) (k : Nat) : List Nat := (List.range k).flatMap fun c => zigs 0 (col l c)
theorem encCols_nums (l : List Ev) : ∀ k, encCols l k = natB l.length ++ (numsK l k).flatMap natB
  | 0 => by simp [encCols, numsK]
  | k + 1 => by
    rw [encCols, encCols_nums l k, encFrom_zigs, List.append_assoc]
    unfold numsK
    rw [List.range_succ, List.flatMap_append, List.flatMap_append, List.flatMap_singleton]
theorem blocks {α : Type} {f : Nat → List α} {n : Nat} (hf : ∀ i, (f i).length = n) {c m : Nat} (hm : m ≤ n) : ∀ k, c < k → (((List.range k).flatMap f).drop (c * n)).take m = (f c).take m
  | 0, h => absurd h (by omega)
  | k + 1, h => by
    have hl : ∀ k, ((List.range k).flatMap f).length = k * n := fun k => by
      induction k with
      | zero => simp
      | succ k ih => rw [List.range_succ, List.flatMap_append, List.length_append, ih, List.flatMap_singleton, hf, Nat.add_mul, Nat.one_mul]
    rw [List.range_succ, List.flatMap_append, List.flatMap_singleton]
    by_cases hk : c < k
    · have h1 : (c + 1) * n ≤ k * n := Nat.mul_le_mul_right n hk
      rw [Nat.add_mul, Nat.one_mul] at h1
      rw [List.drop_append_of_le_length (by rw [hl]; omega), List.take_append_of_le_length (by rw [List.length_drop, hl]; omega)]
      exact blocks hf hm k hk
    · obtain rfl : c = k := by omega
      rw [List.drop_append_of_le_length (by rw [hl]; exact Nat.le_refl _), List.drop_of_length_le (by rw [hl]; exact Nat.le_refl _), List.nil_append]
theorem numsK_len (l : List Ev) (k : Nat) : (numsK l k).length = k * l.length := by
  induction k with
  | zero => simp [numsK]
  | succ k ih =>
    unfold numsK at *
    rw [List.range_succ, List.flatMap_append, List.length_append, ih, List.flatMap_singleton, zigs_len, Nat.add_mul, Nat.one_mul]
    simp [col]
theorem val_nums {l : List Ev} {c i : Nat} {e : Ev} (hc : c < 6) (he : l[i]? = some e) : val (numsK l 6) l.length c i = colv e c := by
  have hi : i < l.length := (List.getElem?_eq_some_iff.1 he).1
  unfold val numsK
  rw [blocks (n := l.length) (fun c => by rw [zigs_len]; simp [col]) (by omega) 6 hc, zigs_sum 0 (col l c) i (colv e c) (by simp [col, he])]
  omega
theorem evsOf_nums (l : List Ev) : evsOf (numsK l 6) l.length = l := by
  apply List.ext_getElem?
  intro i
  unfold evsOf
  rw [List.getElem?_map]
  by_cases hi : i < l.length
  · rw [List.getElem?_range hi, List.getElem?_eq_getElem hi]
    have he : l[i]? = some l[i] := List.getElem?_eq_getElem hi
    unfold evAt
    rw [Option.map_some, val_nums (by omega) he, val_nums (by omega) he, val_nums (by omega) he, val_nums (by omega) he, val_nums (by omega) he, val_nums (by omega) he]
    rfl
  · rw [List.getElem?_eq_none (by simp; omega), List.getElem?_eq_none (by omega)]
    rfl
theorem zigs_lt : ∀ (was : Int) (xs : List Int), isN was = true → (∀ x ∈ xs, isN x = true) → ∀ n ∈ zigs was xs, n < 4398046511104
  | _, [], _, _ => by simp [zigs]
  | was, x :: xs, hw, h => by
    intro n hn
    rw [zigs] at hn
    have hx := h x (by simp)
    rcases List.mem_cons.1 hn with rfl | hn
    · rw [isN_iff] at hw hx
      unfold zig
      split <;> omega
    · exact zigs_lt x xs hx (fun y hy => h y (by simp [hy])) n hn
/-- WHAT IS ENCODED IS DECODED AS IT WAS -/
theorem dec_enc {l : List Ev} (h : encErr l = 0) : decOf (encStr l) = (0, l) := by
  have hs : encStr l = strOfNums (encCols l 6) := by unfold encStr; rw [if_pos h]
  unfold encErr at h
  have hl : l.length ≤ 4000 := by
    by_cases h1 : 4000 < l.length
    · rw [if_pos h1] at h; omega
    · omega
  have hsm : l.all evSmall = true := by
    rw [if_neg (by omega)] at h
    by_cases h2 : l.all evSmall = true
    · exact h2
    · rw [if_neg h2] at h; omega
  rw [hs, encCols_nums]
  have h1 := natAt_natB (n := l.length) (by omega) [] ((numsK l 6).flatMap natB)
  rw [List.nil_append, List.length_nil, Nat.zero_add] at h1
  have hns : ∀ n ∈ numsK l 6, n < 4398046511104 := by
    intro n hn
    unfold numsK at hn
    obtain ⟨c, hc, hn⟩ := List.mem_flatMap.1 hn
    exact zigs_lt 0 _ rfl (col_small hsm (List.mem_range.1 hc)) n hn
  have h2 := rd_flat (pre := natB l.length) (post := []) hns (6 * l.length) (by rw [numsK_len]; exact Nat.le_refl _)
  rw [List.append_nil, List.take_of_length_le (by rw [numsK_len]; exact Nat.le_refl _)] at h2
  unfold decOf
  rw [h1]
  simp only [h2]
  rw [if_neg (by omega), if_neg (by rw [strOfNums_size, List.length_append]; omega), evsOf_nums, if_pos hsm]

end Go.Proofs.Ytdfbhlehfbckjaa
