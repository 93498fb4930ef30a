/- Tokens joined, in plain words: what is joined is scanned as it was. Each lemma states its own conditions. -/
import Derived.Test.YtegknpffiaeohaaDoorTokR
namespace Go.Proofs.YtegknpffiaeohaaDoor
open Go.RowKit

def sp : ByteArray := ⟨#[32]⟩
def emp : ByteArray := ⟨#[]⟩
def joinB : List Tok → ByteArray
  | [] => emp
  | [t] => t.text
  | t :: u :: us => t.text ++ (sp ++ joinB (u :: us))
/-- how long it is, and one more -/
def joinN : List Tok → Nat
  | [] => 0
  | t :: ts => 1 + t.text.size + joinN ts
def allTok (l : List Tok) : Bool := l.all fun t => isTok t.kind t.text
def joinOf (l : List Tok) : ByteArray × Int := if allTok l = true then if 6001 < joinN l then (emp, 2) else (joinB l, 0) else (emp, 1)

theorem sp_bt : bt sp 0 = 32 := by rw [bt_list]; rfl
theorem joinB_size : ∀ l : List Tok, (joinB l).size = joinN l - 1
  | [] => rfl
  | [t] => by simp only [joinB, joinN]; omega
  | t :: u :: us => by
    have := joinB_size (u :: us)
    simp only [joinB, joinN, ByteArray.size_append] at this ⊢
    have h1 : sp.size = 1 := rfl
    omega
theorem joinB_snoc (l : List Tok) (t : Tok) (h : l ≠ []) : joinB (l ++ [t]) = joinB l ++ (sp ++ t.text) := by
  induction l with
  | nil => exact absurd rfl h
  | cons x xs ih =>
    cases xs with
    | nil => rfl
    | cons y ys =>
      have := ih (by simp)
      simp only [List.cons_append, joinB] at this ⊢
      rw [this]
      simp only [ByteArray.append_assoc]
theorem joinN_snoc (l : List Tok) (t : Tok) : joinN (l ++ [t]) = joinN l + (1 + t.text.size) := by
  induction l with
  | nil => simp [joinN]
  | cons x xs ih => simp only [List.cons_append, joinN, ih]; omega
theorem joinN_le : ∀ (l : List Tok), allTok l = true → joinN l ≤ 6001 * l.length
  | [], _ => by simp [joinN]
  | t :: ts, h => by
    unfold allTok at h
    rw [List.all_cons, Bool.and_eq_true] at h
    have h1 := (isTok_iff.1 h.1).1
    have h2 := joinN_le ts h.2
    simp only [joinN, List.length_cons]
    omega
theorem joinN_take_le (l : List Tok) (k : Nat) : joinN (l.take k) ≤ joinN l := by
  induction l generalizing k with
  | nil => simp [joinN]
  | cons x xs ih =>
    cases k with
    | zero => simp [joinN]
    | succ k => have := ih k; simp only [List.take_succ_cons, joinN]; omega

/-- tokens that lie in a text, a blank behind each -/
def Spaced (S : ByteArray) : Nat → List Tok → Prop
  | i, [] => S.size ≤ i
  | i, t :: ts => isTok t.kind t.text = true ∧ (∀ k, k < t.text.size → bt S (i + k) = bt t.text k) ∧ (bt S (i + t.text.size) = 32 ∨ bt S (i + t.text.size) = 256) ∧ i + t.text.size ≤ S.size ∧ Spaced S (i + t.text.size + 1) ts
theorem spaced_join : ∀ (l : List Tok) (P : ByteArray), allTok l = true → Spaced (P ++ joinB l) P.size l
  | [], P, _ => by
    show (P ++ emp).size ≤ P.size
    rw [ByteArray.size_append]; exact Nat.le_refl _
  | [t], P, h => by
    unfold allTok at h
    rw [List.all_cons, Bool.and_eq_true] at h
    refine ⟨h.1, fun k hk => ?_, .inr ?_, ?_, ?_⟩
    · rw [bt_append, if_neg (by omega), Nat.add_sub_cancel_left]; rfl
    · exact bt_out (by rw [ByteArray.size_append]; show ¬ _ < P.size + t.text.size; omega)
    · rw [ByteArray.size_append]; exact Nat.le_refl _
    · show (P ++ t.text).size ≤ _
      rw [ByteArray.size_append]; omega
  | t :: u :: us, P, h => by
    unfold allTok at h
    rw [List.all_cons, Bool.and_eq_true] at h
    have e : P ++ joinB (t :: u :: us) = (P ++ t.text ++ sp) ++ joinB (u :: us) := by
      simp only [joinB, ByteArray.append_assoc]
    have h1 := spaced_join (u :: us) (P ++ t.text ++ sp) h.2
    have e2 : (P ++ t.text ++ sp).size = P.size + t.text.size + 1 := by
      rw [ByteArray.size_append, ByteArray.size_append]; rfl
    rw [e2] at h1
    rw [e]
    refine ⟨h.1, fun k hk => ?_, .inl ?_, ?_, h1⟩
    · rw [bt_append, if_pos (by omega), bt_append, if_pos (by rw [ByteArray.size_append]; omega), bt_append, if_neg (by omega), Nat.add_sub_cancel_left]
    · rw [bt_append, if_pos (by omega), bt_append, if_neg (by rw [ByteArray.size_append]; omega), ByteArray.size_append, Nat.sub_self]
      exact sp_bt
    · rw [ByteArray.size_append, e2]; omega
theorem spaced_scan : ∀ (l : List Tok) (S : ByteArray) (i : Nat) (acc : List Tok), Spaced S i l → ∃ m, scanG S i false acc = (acc ++ m, 0, 0) ∧ m.map (tokKey false) = l.map (tokKey false)
  | [], S, i, acc, h => ⟨[], by rw [scanG_end (by have : S.size ≤ i := h; omega), List.append_nil], rfl⟩
  | t :: ts, S, i, acc, h => by
    obtain ⟨h1, h2, h3, h4, h5⟩ := h
    obtain ⟨g1, g2, g3, g4⟩ := isTok_iff.1 h1
    have hk := tokErr_kind g4
    have hp := tokAt_pos hk
    have he : tokAt S i = tokAt t.text 0 := tokAt_same (n := t.text.size) hk g3.symm (fun k hk => by rw [Nat.zero_add]; exact h2 k hk)
      (by rcases h3 with h3 | h3 <;> rw [h3] <;> decide) (by rintro ⟨_, _, h6⟩; omega)
    have he2 : tokErr S i = 0 := by rw [tokErr_same he (by have := h2 0 (by omega); simpa using this)]; exact g4
    have hk2 : (tokAt S i).1 ≠ 0 := tokErr_kind he2
    obtain ⟨hi, n1, n2⟩ := tokAt_nobl hk2
    have hn : (tokAt S i).2 = t.text.size := by rw [he, g3]
    have hx : S.extract i (i + (tokAt S i).2) = t.text := by
      rw [hn]
      apply ba_ext
      · rw [extract_size h4]; omega
      · intro k hk
        rw [extract_size h4] at hk
        rw [bt_extract _ _ _ _ h4, if_pos hk]
        exact h2 k (by omega)
    have hs : scanG S (i + t.text.size) false (acc ++ [tokHere S i]) = scanG S (i + t.text.size + 1) false (acc ++ [tokHere S i]) := by
      rcases h3 with h3 | h3
      · have hlt : i + t.text.size < S.size := bt_lt (by omega)
        rw [bt_in hlt] at h3
        exact scanG_bl hlt (by simp [h3]) (by simp [isBl, h3])
      · have hlt : ¬ i + t.text.size < S.size := fun hlt => by
          rw [bt_in hlt] at h3
          have := S[i + t.text.size].toNat_lt
          omega
        rw [scanG_end hlt, scanG_end (by omega)]
    obtain ⟨m, h6, h7⟩ := spaced_scan ts S _ (acc ++ [tokHere S i]) h5
    refine ⟨tokHere S i :: m, ?_, ?_⟩
    · rw [scanG_tok hi n1 n2 he2, hn, hs, h6, List.append_assoc]; rfl
    · rw [List.map_cons, List.map_cons, h7]
      congr 1
      unfold tokKey tokHere
      simp only [hx, Bool.false_eq_true, if_false]
      rw [he, g2]
/-- WHAT IS JOINED IS SCANNED AS IT WAS -/
theorem join_scan {l : List Tok} {t : ByteArray} (h : joinOf l = (t, 0)) : ∃ m, scanOf t = (m, 0, 0) ∧ sameToks false l m = true := by
  unfold joinOf at h
  by_cases ha : allTok l = true
  · rw [if_pos ha] at h
    by_cases hn : 6001 < joinN l
    · rw [if_pos hn] at h
      injection h with _ h
      omega
    · rw [if_neg hn] at h
      injection h with h
      have hs := spaced_join l emp ha
      have e : emp ++ joinB l = joinB l := by
        apply ba_ext
        · rw [ByteArray.size_append]; exact Nat.zero_add _
        · intro k hk
          rw [bt_append, if_neg (show ¬ k < emp.size from Nat.not_lt_zero k)]; rfl
      rw [e, h] at hs
      obtain ⟨m, h1, h2⟩ := spaced_scan l t 0 [] hs
      have hz := joinB_size l
      rw [h] at hz
      refine ⟨m, ?_, ?_⟩
      · unfold scanOf
        rw [if_neg (by omega), h1, List.nil_append]
      · unfold sameToks
        rw [h2]
        simp
  · rw [if_neg ha] at h
    injection h with _ h
    omega
theorem here_isTok {s : ByteArray} {j : Nat} (hs : s.size ≤ 6000) (h : tokErr s j = 0) : isTok (tokHere s j).kind (tokHere s j).text = true := by
  have hk := tokErr_kind h
  have hp := tokAt_pos hk
  have hb : ∀ k, bt (tokHere s j).text k = if k < (tokAt s j).2 then bt s (j + k) else 256 := fun k => by
    show bt (s.extract j (j + (tokAt s j).2)) k = _
    rw [bt_extract _ _ _ _ hp.2, Nat.add_sub_cancel_left]
  have he : tokAt (tokHere s j).text 0 = tokAt s j := tokAt_same (n := (tokAt s j).2) hk rfl (fun k hk => by rw [hb, if_pos (by omega), Nat.zero_add])
    (by rw [hb, if_neg (by omega)]; decide) (by rintro ⟨_, _, h6⟩; rw [hb, if_neg (by omega)] at h6; omega)
  have hz : (tokHere s j).text.size = (tokAt s j).2 := by
    show (s.extract j (j + (tokAt s j).2)).size = _
    rw [extract_size hp.2]; omega
  refine isTok_iff.2 ⟨by omega, ?_, ?_, ?_⟩
  · rw [he]; rfl
  · rw [he, hz]
  · rw [tokErr_same he (by rw [hb, if_pos (by omega)]; rfl)]; exact h
theorem toks_all {s : ByteArray} (hs : s.size ≤ 6000) : ∀ (l : List Tok) (i : Nat), Toks s i l → allTok l = true
  | [], _, _ => rfl
  | t :: ts, i, h => by
    obtain ⟨j, _, h1, rfl, h2⟩ := h
    unfold allTok
    rw [List.all_cons, Bool.and_eq_true]
    exact ⟨here_isTok hs h1, toks_all hs ts _ h2⟩
/-- WHAT IS SCANNED IS JOINED, if there is room -/
theorem scan_join {s : ByteArray} {l : List Tok} {a : Int} (h : scanOf s = (l, a, 0)) : (joinOf l).2 = 0 ∨ (joinOf l).2 = 2 := by
  obtain ⟨h1, h2, _⟩ := scanOf_toks h
  unfold joinOf
  rw [if_pos (toks_all h1 l 0 h2)]
  split
  · exact .inr rfl
  · exact .inl rfl
theorem scanG_errs (s : ByteArray) : ∀ (n i : Nat) (note : Bool) (acc : List Tok), s.size - i = n → (scanG s i note acc).2.2 ≠ 0 → (scanG s i note acc).1 = []
  | n, i, note, acc, hn, h => by
    by_cases hi : i < s.size
    · cases h1 : (note || s[i].toNat == 35) with
      | true => rw [scanG_note hi h1] at h ⊢; exact scanG_errs s (n - 1) (i + 1) _ acc (by omega) h
      | false =>
        cases h2 : isBl s[i].toNat with
        | true => rw [scanG_bl hi h1 h2] at h ⊢; exact scanG_errs s (n - 1) (i + 1) _ acc (by omega) h
        | false =>
          by_cases h0 : tokErr s i = 0
          · rw [scanG_tok hi h1 h2 h0] at h ⊢
            have := tokAt_pos (tokErr_kind h0)
            exact scanG_errs s (n - (tokAt s i).2) _ _ _ (by omega) h
          · rw [scanG_err hi h1 h2 h0]
    · rw [scanG_end hi] at h; exact absurd rfl h
termination_by n => n
/-- an error: no tokens -/
theorem scanOf_none {s : ByteArray} (h : (scanOf s).2.2 ≠ 0) : (scanOf s).1 = [] := by
  unfold scanOf at h ⊢
  by_cases hs : 6000 < s.size
  · rw [if_pos hs]
  · rw [if_neg hs] at h ⊢
    exact scanG_errs s _ 0 false [] rfl h

end Go.Proofs.YtegknpffiaeohaaDoor
