/- Tokens in plain words: what a token is does not hang on what stands around it. Letters, digits, the document's token at a place. Strings as the walk compares them. No conditions. Each lemma states its own conditions. -/
import Derived.Test.YtmfjlcpjemccmaaGreatDoorTts03
import Derived.Test.YtmfjlcpjemccmaaGreatDoorTts01
import Derived.Test.YtmfjlcpjemccmaaGreatDoorChecked
namespace Go.Proofs.YtmfjlcpjemccmaaGreatDoor
open Go.RowKit
/-- a byte of a text; 256 beyond its end -/
def bt (s : ByteArray) (i : Nat) : Nat := if h : i < s.size then s[i].toNat else 256
theorem bt_in {s : ByteArray} {i : Nat} (h : i < s.size) : bt s i = s[i].toNat := by rw [bt, dif_pos h]
theorem bt_out {s : ByteArray} {i : Nat} (h : ¬ i < s.size) : bt s i = 256 := by rw [bt, dif_neg h]
theorem bt_lt {s : ByteArray} {i : Nat} (h : bt s i ≠ 256) : i < s.size := by
 by_cases hi : i < s.size
 ·exact hi
 ·exact absurd (bt_out hi) h
theorem bt_list (s : ByteArray) (i : Nat) : bt s i = ((s.data.toList[i]?).map UInt8.toNat).getD 256 := by
 by_cases h : i < s.size
 ·rw [bt_in h]
  have : s.data.toList[i]? = some s[i] := by
   rw [Array.getElem?_toList]
   exact Array.getElem?_eq_getElem h
  rw [this]; rfl
 ·rw [bt_out h]
  have : s.data.toList[i]? = none := List.getElem?_eq_none (by simpa using h)
  rw [this]; rfl
theorem bt_extract (s : ByteArray) (a b k : Nat) (_hb : b ≤ s.size) : bt (s.extract a b) k = if k < b - a then bt s (a + k) else 256 := by
 rw [bt_list, bt_list, ByteArray.data_extract, Array.toList_extract]
 simp only [List.extract_eq_take_drop, List.getElem?_take, List.getElem?_drop]
 split <;> rfl
theorem bt_append (a b : ByteArray) (k : Nat) : bt (a ++ b) k = if k < a.size then bt a k else bt b (k - a.size) := by
 rw [bt_list, bt_list, bt_list, ByteArray.data_append, Array.toList_append]
 split
 ·rename_i h
  rw [List.getElem?_append_left (by simpa using h)]
 ·rename_i h
  rw [List.getElem?_append_right (by simpa using h)]
  rfl
theorem ba_ext {a b : ByteArray} (h : a.size = b.size) (hb : ∀ k, k < a.size → bt a k = bt b k) : a = b := by
 have : a.data.toList = b.data.toList := by
  apply List.ext_getElem
  ·simpa using h
  ·intro i h1 h2
   have h1' : i < a.size := by simpa using h1
   have h2' : i < b.size := by simpa using h2
   have := hb i h1'
   rw [bt_in h1', bt_in h2'] at this
   have h3 := UInt8.toNat_inj.1 this
   exact h3
 cases a; cases b
 simp only [ByteArray.mk.injEq]
 exact Array.toList_inj.1 this
theorem runTo_bt (p : Nat → Bool) (hp : p 256 = false) (s : ByteArray) (i : Nat) : runTo p s i = if p (bt s i) = true then runTo p s (i + 1) else i := by
 by_cases h : i < s.size
 ·rw [bt_in h, runTo, dif_pos h]
 ·rw [bt_out h, if_neg (by simp [hp]), runTo_end h]
/-- a run: where it ends -/
theorem runTo_eq {p : Nat → Bool} (hp : p 256 = false) {s : ByteArray} {j : Nat} (hj : p (bt s j) = false) : ∀ (n i : Nat), j - i = n → i ≤ j → (∀ k, i ≤ k → k < j → p (bt s k) = true) → runTo p s i = j
 | n, i, hn, hij, h => by
  by_cases he : i = j
  ·subst he
   rw [runTo_bt p hp, if_neg (by simp [hj])]
  ·rw [runTo_bt p hp, if_pos (h i (Nat.le_refl _) (by omega))]
   exact runTo_eq hp hj (n - 1) (i + 1) (by omega) (by omega) (fun k h1 h2 => h k (by omega) h2)
termination_by n => n
theorem runTo_in {p : Nat → Bool} (hp : p 256 = false) {s : ByteArray} : ∀ (n i : Nat), s.size - i = n → p (bt s (runTo p s i)) = false ∧ ∀ k, i ≤ k → k < runTo p s i → p (bt s k) = true
 | n, i, hn => by
  cases hb : p (bt s i) with
  | false =>
   rw [runTo_bt p hp, if_neg (by simp [hb])]
   exact ⟨hb, fun k h1 h2 => by omega⟩
  | true =>
   have hi : i < s.size := bt_lt (fun h => by rw [h, hp] at hb; cases hb)
   rw [runTo_bt p hp, if_pos hb]
   obtain ⟨h1, h2⟩ := runTo_in (s := s) hp (n - 1) (i + 1) (by omega)
   refine ⟨h1, fun k h3 h4 => ?_⟩
   by_cases he : k = i
   ·rw [he]; exact hb
   ·exact h2 k (by omega) h4
termination_by n => n
theorem isLD_256 : isLD 256 = false := by decide
theorem isD_256 : isD 256 = false := by decide
theorem tokAt_bt (s : ByteArray) (i : Nat) : tokAt s i =
  if isL (bt s i) = true then (1, runTo isLD s (i + 1) - i)
  else if isD (bt s i) = true then (2, runTo isD s (i + 1) - i)
  else if bt s i = 61 ∧ bt s (i + 1) = 61 then (3, 2)
  else if isS (bt s i) = true then (3, 1)
  else (0, 0) := by
 by_cases h : i < s.size
 ·rw [tokAt, dif_pos h, bt_in h]
  have h61 : (s[i].toNat = 61 ∧ ∃ h : i + 1 < s.size, s[i + 1].toNat = 61) ↔ (s[i].toNat = 61 ∧ bt s (i + 1) = 61) := by
   constructor
   ·rintro ⟨h1, h2, h3⟩
    exact ⟨h1, by rw [bt_in h2]; exact h3⟩
   ·rintro ⟨h1, h2⟩
    have h3 : i + 1 < s.size := bt_lt (by omega)
    rw [bt_in h3] at h2
    exact ⟨h1, h3, h2⟩
  simp only [h61]
 ·rw [tokAt, dif_neg h, bt_out h, if_neg (by decide), if_neg (by decide), if_neg (by omega), if_neg (by decide)]
/-- the same bytes up to the token's end, and an end of it behind it: the same token -/
theorem tokAt_same {s S : ByteArray} {i j n : Nat} (hk : (tokAt s i).1 ≠ 0) (hn : n = (tokAt s i).2) (h : ∀ k, k < n → bt S (j + k) = bt s (i + k))
  (he : isLD (bt S (j + n)) = false) (h61 : ¬ (bt s i = 61 ∧ n = 1 ∧ bt S (j + n) = 61)) : tokAt S j = tokAt s i := by
 have hpos := (tokAt_pos hk).1
 have h0 : bt S j = bt s i := by have := h 0 (by omega); simpa using this
 rw [tokAt_bt] at hk hn ⊢
 rw [tokAt_bt s i, h0]
 by_cases h1 : isL (bt s i) = true
 ·rw [if_pos h1] at hn ⊢
  rw [if_pos h1]
  simp only at hn
  obtain ⟨h3, h4⟩ := runTo_in (s := s) isLD_256 _ (i + 1) rfl
  have h5 := runTo_ge isLD s (i + 1)
  have h6 : runTo isLD S (j + 1) = j + n := runTo_eq isLD_256 he _ (j + 1) rfl (by omega) (fun k h6 h7 => by
   have e : k = j + (k - j) := by omega
   rw [e, h (k - j) (by omega)]
   exact h4 _ (by omega) (by omega))
  rw [h6]
  congr 1
  omega
 ·rw [if_neg h1] at hn hk ⊢
  rw [if_neg h1]
  by_cases h1 : isD (bt s i) = true
  ·rw [if_pos h1] at hn ⊢
   rw [if_pos h1]
   simp only at hn
   obtain ⟨h3, h4⟩ := runTo_in (s := s) isD_256 _ (i + 1) rfl
   have h5 := runTo_ge isD s (i + 1)
   have he' : isD (bt S (j + n)) = false := by unfold isLD at he; simp at he; exact he.2
   have h6 : runTo isD S (j + 1) = j + n := runTo_eq isD_256 he' _ (j + 1) rfl (by omega) (fun k h6 h7 => by
    have e : k = j + (k - j) := by omega
    rw [e, h (k - j) (by omega)]
    exact h4 _ (by omega) (by omega))
   rw [h6]
   congr 1
   omega
  ·rw [if_neg h1] at hn hk ⊢
   rw [if_neg h1]
   by_cases h2 : bt s i = 61 ∧ bt s (i + 1) = 61
   ·rw [if_pos h2] at hn ⊢
    simp only at hn
    rw [if_pos]
    rw [h 1 (by omega)]
    exact h2
   ·rw [if_neg h2] at hn hk ⊢
    by_cases h3 : isS (bt s i) = true
    ·rw [if_pos h3] at hn ⊢
     simp only at hn
     rw [if_neg]
     intro h4
     apply h61
     rw [hn]
     exact ⟨h4.1, rfl, h4.2⟩
    ·rw [if_neg h3] at hk
     simp at hk
theorem tokErr_bt (s : ByteArray) (i : Nat) : tokErr s i =
  if (tokAt s i).1 = 0 then 1
  else if ((tokAt s i).1 = 1 ∧ 12 < (tokAt s i).2) ∨ ((tokAt s i).1 = 2 ∧ 7 < (tokAt s i).2) then 2
  else if (tokAt s i).1 = 2 ∧ 1 < (tokAt s i).2 ∧ bt s i = 48 then 1
  else 0 := by
 unfold tokErr
 have h48 : (∃ h : i < s.size, s[i].toNat = 48) ↔ bt s i = 48 := by
  constructor
  ·rintro ⟨h1, h2⟩; rw [bt_in h1]; exact h2
  ·intro h
   have h1 : i < s.size := bt_lt (by omega)
   rw [bt_in h1] at h
   exact ⟨h1, h⟩
 simp only [h48]
theorem tokErr_same {s S : ByteArray} {i j : Nat} (h : tokAt S j = tokAt s i) (h0 : bt S j = bt s i) : tokErr S j = tokErr s i := by
 rw [tokErr_bt, tokErr_bt, h, h0]
/-- a text that is just one token of a kind -/
def isTok (kind : Int) (s : ByteArray) : Bool := decide (s.size ≤ 6000 ∧ kind = (tokAt s 0).1 ∧ (tokAt s 0).2 = s.size ∧ tokErr s 0 = 0)
theorem isTok_iff {kind : Int} {s : ByteArray} : isTok kind s = true ↔ s.size ≤ 6000 ∧ kind = (tokAt s 0).1 ∧ (tokAt s 0).2 = s.size ∧ tokErr s 0 = 0 := by
 unfold isTok
 exact decide_eq_true_iff
/-- tokens that stand in a text, one behind the other -/
def Toks (s : ByteArray) : Nat → List Tok → Prop
 | _, [] => True
 | i, t :: ts => ∃ j, i ≤ j ∧ tokErr s j = 0 ∧ t = tokHere s j ∧ Toks s (j + (tokAt s j).2) ts
theorem scanG_toks (s : ByteArray) : ∀ (n i : Nat) (note : Bool) (acc l : List Tok) (a : Int), s.size - i = n → scanG s i note acc = (l, a, 0) → ∃ l', l = acc ++ l' ∧ Toks s i l' ∧ a = 0
 | n, i, note, acc, l, a, hn, h => by
  by_cases hi : i < s.size
  ·cases h1 : (note || s[i].toNat == 35) with
   | true =>
    rw [scanG_note hi h1] at h
    obtain ⟨l', h2, h3, h4⟩ := scanG_toks s (n - 1) (i + 1) _ acc l a (by omega) h
    refine ⟨l', h2, ?_, h4⟩
    cases l' with
    | nil => trivial
    | cons t ts => obtain ⟨j, g1, g2⟩ := h3; exact ⟨j, by omega, g2⟩
   | false =>
    cases h2 : isBl s[i].toNat with
    | true =>
     rw [scanG_bl hi h1 h2] at h
     obtain ⟨l', h2, h3, h4⟩ := scanG_toks s (n - 1) (i + 1) _ acc l a (by omega) h
     refine ⟨l', h2, ?_, h4⟩
     cases l' with
     | nil => trivial
     | cons t ts => obtain ⟨j, g1, g2⟩ := h3; exact ⟨j, by omega, g2⟩
    | false =>
     by_cases h0 : tokErr s i = 0
     ·rw [scanG_tok hi h1 h2 h0] at h
      have hp := tokAt_pos (tokErr_kind h0)
      obtain ⟨l', h2, h3, h4⟩ := scanG_toks s (n - (tokAt s i).2) (i + (tokAt s i).2) false _ l a (by omega) h
      exact ⟨tokHere s i :: l', by rw [h2, List.append_assoc]; rfl, ⟨i, Nat.le_refl _, h0, rfl, h3⟩, h4⟩
     ·rw [scanG_err hi h1 h2 h0] at h
      injection h with _ h
      injection h with _ h
      exact absurd h h0
  ·rw [scanG_end hi] at h
   injection h with h1 h2
   injection h2 with h2 h3
   exact ⟨[], by rw [h1, List.append_nil], trivial, h2.symm⟩
termination_by n => n
theorem scanOf_toks {s : ByteArray} {l : List Tok} {a : Int} (h : scanOf s = (l, a, 0)) : s.size ≤ 6000 ∧ Toks s 0 l ∧ a = 0 := by
 unfold scanOf at h
 by_cases hs : 6000 < s.size
 ·rw [if_pos hs] at h
  injection h with _ h
  injection h with _ h
  omega
 ·rw [if_neg hs] at h
  obtain ⟨l', h1, h2, h3⟩ := scanG_toks s _ 0 false [] l a rfl h
  rw [List.nil_append] at h1
  subst h1
  exact ⟨by omega, h2, h3⟩
/-- where a token begins there is no blank and no remark -/
theorem tokAt_nobl {s : ByteArray} {i : Nat} (hk : (tokAt s i).1 ≠ 0) : ∃ h : i < s.size, (false || s[i].toNat == 35) = false ∧ isBl s[i].toNat = false := by
 have hp := tokAt_pos hk
 have hi : i < s.size := by omega
 refine ⟨hi, ?_⟩
 rw [tokAt_bt, bt_in hi] at hk
 have h35 : s[i].toNat ≠ 35 := by
  intro h; rw [h] at hk; rw [if_neg (by decide), if_neg (by decide), if_neg (by omega), if_neg (by decide)] at hk; exact hk rfl
 have h32 : s[i].toNat ≠ 32 := by
  intro h; rw [h] at hk; rw [if_neg (by decide), if_neg (by decide), if_neg (by omega), if_neg (by decide)] at hk; exact hk rfl
 have h9 : s[i].toNat ≠ 9 := by
  intro h; rw [h] at hk; rw [if_neg (by decide), if_neg (by decide), if_neg (by omega), if_neg (by decide)] at hk; exact hk rfl
 have h10 : s[i].toNat ≠ 10 := by
  intro h; rw [h] at hk; rw [if_neg (by decide), if_neg (by decide), if_neg (by omega), if_neg (by decide)] at hk; exact hk rfl
 constructor
 ·simpa using h35
 ·unfold isBl; simp [h32, h9, h10]
theorem extract_all (s : ByteArray) : s.extract 0 s.size = s := by
 apply ba_ext
 ·simp
 ·intro k hk
  rw [bt_extract _ _ _ _ (Nat.le_refl _)]
  simp at hk
  rw [if_pos (by omega), Nat.zero_add]
theorem extract_size {s : ByteArray} {a b : Nat} (h : b ≤ s.size) : (s.extract a b).size = b - a := by
 rw [ByteArray.size_extract]; omega
/-- one token alone -/
theorem one_iff (kind : Int) (s : ByteArray) : isTok kind s = true ↔ (scanOf s).2.2 = 0 ∧ ∃ t, (scanOf s).1 = [t] ∧ t.kind = kind ∧ t.text = s := by
 rw [isTok_iff]
 constructor
 ·rintro ⟨h1, h2, h3, h4⟩
  have hk := tokErr_kind h4
  obtain ⟨hi, g1, g2⟩ := tokAt_nobl hk
  have e : scanOf s = ([tokHere s 0], 0, 0) := by
   unfold scanOf
   rw [if_neg (by omega), scanG_tok hi g1 g2 h4, h3, scanG_end (by omega)]
   rfl
  rw [e]
  refine ⟨rfl, _, rfl, ?_, ?_⟩
  ·exact h2.symm
  ·show s.extract 0 (0 + (tokAt s 0).2) = s
   rw [h3, Nat.zero_add, extract_all]
 ·rintro ⟨h1, t, h2, h3, h4⟩
  have e : scanOf s = ([t], (scanOf s).2.1, 0) := by rw [← h1, ← h2]
  obtain ⟨g1, g2, _⟩ := scanOf_toks e
  obtain ⟨j, _, hj, ht, _⟩ := g2
  have hk := tokErr_kind hj
  have hp := tokAt_pos hk
  have h5 : s.extract j (j + (tokAt s j).2) = s := by rw [ht] at h4; exact h4
  have h6 := congrArg ByteArray.size h5
  rw [extract_size (by omega)] at h6
  obtain rfl : j = 0 := by omega
  refine ⟨g1, ?_, by omega, hj⟩
  rw [← h3, ht]
  rfl
theorem letter_any (b : Nat) (w : World) : Calls Tryz.prog 109 #[.int .u8 b] w fun r w' => r = .returned (.bool (isL b)) ∧ w = w' := by
 go_enter Tryz.func109, Tryz.ntmps109
 go_wp2
 all_goals go_ret
 all_goals refine ⟨ret_bool ?_, rfl⟩
 all_goals unfold isL
 all_goals rw [Bool.eq_iff_iff]
 all_goals simp
 all_goals omega
theorem digit_any (b : Nat) (w : World) : Calls Tryz.prog 112 #[.int .u8 b] w fun r w' => r = .returned (.bool (isD b)) ∧ w = w' := by
 go_enter Tryz.func112, Tryz.ntmps112
 go_wp2
 all_goals go_ret
 all_goals refine ⟨ret_bool ?_, rfl⟩
 all_goals unfold isD
 all_goals rw [Bool.eq_iff_iff]
 all_goals simp
 all_goals omega
theorem ld_any (b : Nat) (w : World) : Calls Tryz.prog 111 #[.int .u8 b] w fun r w' => r = .returned (.bool (isLD b)) ∧ w = w' := by
 unfold isLD
 cases h : isL b with
 | true =>
  go_enter Tryz.func111, Tryz.ntmps111
  go_wp2_with (go_at_call 109; refine (letter_any _ _).mono ?_; rintro e w' ⟨rfl, rfl⟩; simp only [h])
  go_ret
  exact ⟨rfl, rfl⟩
 | false =>
  go_enter Tryz.func111, Tryz.ntmps111
  go_wp2_with (first | (go_at_call 109; refine (letter_any _ _).mono ?_; rintro e w' ⟨rfl, rfl⟩; simp only [h]) | (go_at_call 112; refine (digit_any _ _).mono ?_; rintro e w' ⟨rfl, rfl⟩))
  go_ret
  exact ⟨rfl, rfl⟩
theorem runTo_step {p : Nat → Bool} {s : ByteArray} {i j : Nat} {b : Nat} (h : runTo p s i = runTo p s j) (hj : j < s.size) (hb : s[j].toNat = b) (hp : p b = true) : runTo p s i = runTo p s (j + 1) := by
 rw [h, runTo_go hj (by rw [hb]; exact hp)]
theorem runTo_done {p : Nat → Bool} {s : ByteArray} {i j : Nat} {b : Nat} (h : runTo p s i = runTo p s j) (hj : j < s.size) (hb : s[j].toNat = b) (hp : p b = false) : runTo p s i = j := by
 rw [h, runTo_stop hj (by rw [hb]; exact hp)]
def signs : ByteArray := ⟨#[123, 125, 40, 41, 91, 93, 59, 44, 61, 43, 45, 42, 47, 37, 60]⟩
theorem toList_loop (a : ByteArray) : ∀ (n i : Nat) (r : List UInt8), a.size - i = n → ByteArray.toList.loop a i r = r.reverse ++ a.data.toList.drop i
 | n, i, r, hn => by
  rw [ByteArray.toList.loop]
  by_cases h : i < a.size
  ·rw [if_pos h, toList_loop a (n - 1) (i + 1) _ (by omega)]
   have h2 : i < a.data.toList.length := by simpa using h
   rw [List.drop_eq_getElem_cons h2, List.reverse_cons, List.append_assoc]
   congr 1
   show a.get! i :: _ = _
   have : a.get! i = a.data.toList[i] := by
    show a.data[i]! = _
    rw [getElem!_pos a.data i (by simpa using h)]
    simp
   rw [this]
   rfl
  ·rw [if_neg h, List.drop_of_length_le (by simpa using h), List.append_nil]
termination_by n => n
theorem toList_data (a : ByteArray) : a.toList = a.data.toList := by
 rw [ByteArray.toList, toList_loop a _ 0 [] rfl]; simp
theorem str_eq (a b : ByteArray) : (a.toList == b.toList) = decide (a = b) := by
 rw [toList_data, toList_data, Bool.eq_iff_iff]
 simp
 constructor
 ·intro h; cases a; cases b; simp at h; rw [h]
 ·intro h; rw [h]
theorem str_true {a b : ByteArray} (h : a = b) : (a.toList == b.toList) = true := by rw [str_eq]; exact decide_eq_true h
theorem str_false {a b : ByteArray} (h : a ≠ b) : (a.toList == b.toList) = false := by rw [str_eq]; exact decide_eq_false h
end Go.Proofs.YtmfjlcpjemccmaaGreatDoor
