/- Tokens that were scanned: numbers are digits; nothing else begins with one. Each lemma states its own conditions. -/
import Derived.Test.YtegknpffiaeohaaDoorPrsB
namespace Go.Proofs.YtegknpffiaeohaaDoor
open Go.RowKit

theorem isD_range {b : Nat} (h : isD b = true) : 48 ≤ b ∧ b ≤ 57 := by
  unfold isD at h
  simpa using h
theorem here_ok {s : ByteArray} {j : Nat} (h : tokErr s j = 0) : TokOk (tokHere s j) := by
  have hk := tokErr_kind h
  obtain ⟨hp1, hp2⟩ := tokAt_pos hk
  have hsz : (s.extract j (j + (tokAt s j).2)).size = (tokAt s j).2 := by rw [extract_size hp2]; omega
  have hb0 : bt (s.extract j (j + (tokAt s j).2)) 0 = bt s j := by rw [bt_extract _ _ _ _ hp2, if_pos (by omega), Nat.add_zero]
  refine ⟨fun h2 => ?_, by show 0 < (s.extract j (j + (tokAt s j).2)).size; omega, fun h2 => ?_⟩
  · have h2 : (tokAt s j).1 = 2 := by
      have : ((tokAt s j).1 : Int) = 2 := h2
      omega
    have h7 : (tokAt s j).2 ≤ 7 := by
      unfold tokErr at h
      rw [if_neg hk] at h
      by_cases hb : (tokAt s j).1 = 1 ∧ 12 < (tokAt s j).2 ∨ (tokAt s j).1 = 2 ∧ 7 < (tokAt s j).2
      · rw [if_pos hb] at h; omega
      · omega
    refine ⟨by show 0 < (s.extract j (j + (tokAt s j).2)).size; omega, by show (s.extract j (j + (tokAt s j).2)).size ≤ 7; omega, fun b hb => ?_⟩
    obtain ⟨i, hiT, rfl⟩ := List.mem_iff_getElem.1 hb
    have hi : i < (s.extract j (j + (tokAt s j).2)).data.toList.length := hiT
    have hi2 : i < (tokAt s j).2 := by
      have hi' := hi
      rw [Array.length_toList] at hi'
      have : (s.extract j (j + (tokAt s j).2)).data.size = (s.extract j (j + (tokAt s j).2)).size := rfl
      omega
    have hbi : bt (s.extract j (j + (tokAt s j).2)) i = bt s (j + i) := by rw [bt_extract _ _ _ _ hp2, if_pos (by omega)]
    have hbv : bt (s.extract j (j + (tokAt s j).2)) i = ((s.extract j (j + (tokAt s j).2)).data.toList[i]'hi).toNat := by
      rw [bt_list, List.getElem?_eq_getElem hi]
      rfl
    have hd : isD (bt s (j + i)) = true := by
      have he := tokAt_bt s j
      by_cases h1 : isL (bt s j) = true
      · rw [if_pos h1] at he; rw [he] at h2; simp at h2
      · rw [if_neg h1] at he
        by_cases h3 : isD (bt s j) = true
        · rw [if_pos h3] at he
          have hn : (tokAt s j).2 = runTo isD s (j + 1) - j := by rw [he]
          by_cases hi0 : i = 0
          · rw [hi0, Nat.add_zero]; exact h3
          · exact (runTo_in (s := s) isD_256 _ (j + 1) rfl).2 (j + i) (by omega) (by omega)
        · rw [if_neg h3] at he
          by_cases h4 : bt s j = 61 ∧ bt s (j + 1) = 61
          · rw [if_pos h4] at he; rw [he] at h2; simp at h2
          · rw [if_neg h4] at he
            by_cases h5 : isS (bt s j) = true
            · rw [if_pos h5] at he; rw [he] at h2; simp at h2
            · rw [if_neg h5] at he; rw [he] at h2; simp at h2
    have := isD_range hd
    show 48 ≤ ((s.extract j (j + (tokAt s j).2)).data.toList[i]'hi).toNat ∧ ((s.extract j (j + (tokAt s j).2)).data.toList[i]'hi).toNat ≤ 57
    omega
  · show isD (bt (s.extract j (j + (tokAt s j).2)) 0) = false
    rw [hb0]
    have h2 : (tokAt s j).1 ≠ 2 := fun e => h2 (by show ((tokAt s j).1 : Int) = 2; omega)
    cases hd : isD (bt s j) with
    | false => rfl
    | true =>
      exfalso
      have he := tokAt_bt s j
      have hr := isD_range hd
      by_cases h1 : isL (bt s j) = true
      · unfold isL at h1
        simp only [Bool.and_eq_true, decide_eq_true_eq] at h1
        omega
      · rw [if_neg h1, if_pos hd] at he
        rw [he] at h2
        exact h2 rfl
theorem toks_ok {s : ByteArray} : ∀ (l : List Tok) (i : Nat), Toks s i l → (∀ t ∈ l, TokOk t) ∧ l.length ≤ s.size - i
  | [], _, _ => ⟨by simp, by simp⟩
  | t :: ts, i, ⟨j, hj, he, ht, hr⟩ => by
    obtain ⟨h1, h2⟩ := toks_ok ts _ hr
    obtain ⟨hp1, hp2⟩ := tokAt_pos (tokErr_kind he)
    refine ⟨fun x hx => ?_, by rw [List.length_cons]; omega⟩
    rcases List.mem_cons.1 hx with rfl | hx
    · rw [ht]; exact here_ok he
    · exact h1 x hx
theorem scan_ok {s : ByteArray} (h : (scanOf s).2.2 = 0) : (∀ t ∈ (scanOf s).1, TokOk t) ∧ (scanOf s).1.length ≤ 6000 ∧ s.size ≤ 6000 := by
  obtain ⟨h1, h2, -⟩ := scanOf_toks (s := s) (l := (scanOf s).1) (a := (scanOf s).2.1) (by rw [← h])
  obtain ⟨h3, h4⟩ := toks_ok _ _ h2
  exact ⟨h3, by omega, h1⟩
end Go.Proofs.YtegknpffiaeohaaDoor
