/- Tokens in plain words: what a token is does not hang on what stands around it. The document's 'between'. No conditions. Letters, digits, the document's token at a place. Strings as the walk compares them. No conditions. Tokens in memory; whether two lists of tokens are one. Tokens joined, in plain words: what is joined is scanned as it was. Each lemma states its own conditions. -/
import Derived.Test.YtmfjlcpjemccmaaGreatDoorTps01
import Derived.Test.YtmfjlcpjemccmaaGreatDoorChecked
import Derived.Outline
import Derived.Deep.QuietTactic
import Derived.BigQuiet
import Derived.WalkLawsBesides
import Derived.WalkSpells
namespace Go.Proofs.YtmfjlcpjemccmaaGreatDoor
open Go.RowKit
/-- a byte of a text; 256 beyond its end -/
def bt (s : ByteArray) (i : Nat) : Nat := if h : i < s.size then s[i].toNat else 256
theorem bt_in {s : ByteArray} {i : Nat} (h : i < s.size) : bt s i = s[i].toNat := by rw [bt, dif_pos h]
theorem bt_out {s : ByteArray} {i : Nat} (h : ¬ i < s.size) : bt s i = 256 := by rw [bt, dif_neg h]
theorem bt_lt {s : ByteArray} {i : Nat} (h : bt s i ≠ 256) : i < s.size := by
 by_cases hi : i < s.size
 ·exact hi
 ·exact absurd (bt_out hi) h
theorem bt_list (s : ByteArray) (i : Nat) : bt s i = ((s.data.toList[i]?).map UInt8.toNat).getD 256 := by
 by_cases h : i < s.size
 ·rw [bt_in h]
  have : s.data.toList[i]? = some s[i] := by
   rw [Array.getElem?_toList]
   exact Array.getElem?_eq_getElem h
  rw [this]; rfl
 ·rw [bt_out h]
  have : s.data.toList[i]? = none := List.getElem?_eq_none (by simpa using h)
  rw [this]; rfl
theorem bt_extract (s : ByteArray) (a b k : Nat) (_hb : b ≤ s.size) : bt (s.extract a b) k = if k < b - a then bt s (a + k) else 256 := by
 rw [bt_list, bt_list, ByteArray.data_extract, Array.toList_extract]
 simp only [List.extract_eq_take_drop, List.getElem?_take, List.getElem?_drop]
 split <;> rfl
theorem ba_ext {a b : ByteArray} (h : a.size = b.size) (hb : ∀ k, k < a.size → bt a k = bt b k) : a = b := by
 have : a.data.toList = b.data.toList := by
  apply List.ext_getElem
  ·simpa using h
  ·intro i h1 h2
   have h1' : i < a.size := by simpa using h1
   have h2' : i < b.size := by simpa using h2
   have := hb i h1'
   rw [bt_in h1', bt_in h2'] at this
   have h3 := UInt8.toNat_inj.1 this
   exact h3
 cases a; cases b
 simp only [ByteArray.mk.injEq]
 exact Array.toList_inj.1 this
theorem runTo_bt (p : Nat → Bool) (hp : p 256 = false) (s : ByteArray) (i : Nat) : runTo p s i = if p (bt s i) = true then runTo p s (i + 1) else i := by
 by_cases h : i < s.size
 ·rw [bt_in h, runTo, dif_pos h]
 ·rw [bt_out h, if_neg (by simp [hp]), runTo_end h]
theorem runTo_in {p : Nat → Bool} (hp : p 256 = false) {s : ByteArray} : ∀ (n i : Nat), s.size - i = n → p (bt s (runTo p s i)) = false ∧ ∀ k, i ≤ k → k < runTo p s i → p (bt s k) = true
 | n, i, hn => by
  cases hb : p (bt s i) with
  | false =>
   rw [runTo_bt p hp, if_neg (by simp [hb])]
   exact ⟨hb, fun k h1 h2 => by omega⟩
  | true =>
   have hi : i < s.size := bt_lt (fun h => by rw [h, hp] at hb; cases hb)
   rw [runTo_bt p hp, if_pos hb]
   obtain ⟨h1, h2⟩ := runTo_in (s := s) hp (n - 1) (i + 1) (by omega)
   refine ⟨h1, fun k h3 h4 => ?_⟩
   by_cases he : k = i
   ·rw [he]; exact hb
   ·exact h2 k (by omega) h4
termination_by n => n
theorem isD_256 : isD 256 = false := by decide
theorem tokAt_bt (s : ByteArray) (i : Nat) : tokAt s i =
  if isL (bt s i) = true then (1, runTo isLD s (i + 1) - i)
  else if isD (bt s i) = true then (2, runTo isD s (i + 1) - i)
  else if bt s i = 61 ∧ bt s (i + 1) = 61 then (3, 2)
  else if isS (bt s i) = true then (3, 1)
  else (0, 0) := by
 by_cases h : i < s.size
 ·rw [tokAt, dif_pos h, bt_in h]
  have h61 : (s[i].toNat = 61 ∧ ∃ h : i + 1 < s.size, s[i + 1].toNat = 61) ↔ (s[i].toNat = 61 ∧ bt s (i + 1) = 61) := by
   constructor
   ·rintro ⟨h1, h2, h3⟩
    exact ⟨h1, by rw [bt_in h2]; exact h3⟩
   ·rintro ⟨h1, h2⟩
    have h3 : i + 1 < s.size := bt_lt (by omega)
    rw [bt_in h3] at h2
    exact ⟨h1, h3, h2⟩
  simp only [h61]
 ·rw [tokAt, dif_neg h, bt_out h, if_neg (by decide), if_neg (by decide), if_neg (by omega), if_neg (by decide)]
theorem tokErr_bt (s : ByteArray) (i : Nat) : tokErr s i =
  if (tokAt s i).1 = 0 then 1
  else if ((tokAt s i).1 = 1 ∧ 12 < (tokAt s i).2) ∨ ((tokAt s i).1 = 2 ∧ 7 < (tokAt s i).2) then 2
  else if (tokAt s i).1 = 2 ∧ 1 < (tokAt s i).2 ∧ bt s i = 48 then 1
  else 0 := by
 unfold tokErr
 have h48 : (∃ h : i < s.size, s[i].toNat = 48) ↔ bt s i = 48 := by
  constructor
  ·rintro ⟨h1, h2⟩; rw [bt_in h1]; exact h2
  ·intro h
   have h1 : i < s.size := bt_lt (by omega)
   rw [bt_in h1] at h
   exact ⟨h1, h⟩
 simp only [h48]
/-- a text that is just one token of a kind -/
def isTok (kind : Int) (s : ByteArray) : Bool := decide (s.size ≤ 6000 ∧ kind = (tokAt s 0).1 ∧ (tokAt s 0).2 = s.size ∧ tokErr s 0 = 0)
theorem isTok_iff {kind : Int} {s : ByteArray} : isTok kind s = true ↔ s.size ≤ 6000 ∧ kind = (tokAt s 0).1 ∧ (tokAt s 0).2 = s.size ∧ tokErr s 0 = 0 := by
 unfold isTok
 exact decide_eq_true_iff
/-- tokens that stand in a text, one behind the other -/
def Toks (s : ByteArray) : Nat → List Tok → Prop
 | _, [] => True
 | i, t :: ts => ∃ j, i ≤ j ∧ tokErr s j = 0 ∧ t = tokHere s j ∧ Toks s (j + (tokAt s j).2) ts
theorem scanG_toks (s : ByteArray) : ∀ (n i : Nat) (note : Bool) (acc l : List Tok) (a : Int), s.size - i = n → scanG s i note acc = (l, a, 0) → ∃ l', l = acc ++ l' ∧ Toks s i l' ∧ a = 0
 | n, i, note, acc, l, a, hn, h => by
  by_cases hi : i < s.size
  ·cases h1 : (note || s[i].toNat == 35) with
   | true =>
    rw [scanG_note hi h1] at h
    obtain ⟨l', h2, h3, h4⟩ := scanG_toks s (n - 1) (i + 1) _ acc l a (by omega) h
    refine ⟨l', h2, ?_, h4⟩
    cases l' with
    | nil => trivial
    | cons t ts => obtain ⟨j, g1, g2⟩ := h3; exact ⟨j, by omega, g2⟩
   | false =>
    cases h2 : isBl s[i].toNat with
    | true =>
     rw [scanG_bl hi h1 h2] at h
     obtain ⟨l', h2, h3, h4⟩ := scanG_toks s (n - 1) (i + 1) _ acc l a (by omega) h
     refine ⟨l', h2, ?_, h4⟩
     cases l' with
     | nil => trivial
     | cons t ts => obtain ⟨j, g1, g2⟩ := h3; exact ⟨j, by omega, g2⟩
    | false =>
     by_cases h0 : tokErr s i = 0
     ·rw [scanG_tok hi h1 h2 h0] at h
      have hp := tokAt_pos (tokErr_kind h0)
      obtain ⟨l', h2, h3, h4⟩ := scanG_toks s (n - (tokAt s i).2) (i + (tokAt s i).2) false _ l a (by omega) h
      exact ⟨tokHere s i :: l', by rw [h2, List.append_assoc]; rfl, ⟨i, Nat.le_refl _, h0, rfl, h3⟩, h4⟩
     ·rw [scanG_err hi h1 h2 h0] at h
      injection h with _ h
      injection h with _ h
      exact absurd h h0
  ·rw [scanG_end hi] at h
   injection h with h1 h2
   injection h2 with h2 h3
   exact ⟨[], by rw [h1, List.append_nil], trivial, h2.symm⟩
termination_by n => n
theorem scanOf_toks {s : ByteArray} {l : List Tok} {a : Int} (h : scanOf s = (l, a, 0)) : s.size ≤ 6000 ∧ Toks s 0 l ∧ a = 0 := by
 unfold scanOf at h
 by_cases hs : 6000 < s.size
 ·rw [if_pos hs] at h
  injection h with _ h
  injection h with _ h
  omega
 ·rw [if_neg hs] at h
  obtain ⟨l', h1, h2, h3⟩ := scanG_toks s _ 0 false [] l a rfl h
  rw [List.nil_append] at h1
  subst h1
  exact ⟨by omega, h2, h3⟩
/-- where a token begins there is no blank and no remark -/
theorem tokAt_nobl {s : ByteArray} {i : Nat} (hk : (tokAt s i).1 ≠ 0) : ∃ h : i < s.size, (false || s[i].toNat == 35) = false ∧ isBl s[i].toNat = false := by
 have hp := tokAt_pos hk
 have hi : i < s.size := by omega
 refine ⟨hi, ?_⟩
 rw [tokAt_bt, bt_in hi] at hk
 have h35 : s[i].toNat ≠ 35 := by
  intro h; rw [h] at hk; rw [if_neg (by decide), if_neg (by decide), if_neg (by omega), if_neg (by decide)] at hk; exact hk rfl
 have h32 : s[i].toNat ≠ 32 := by
  intro h; rw [h] at hk; rw [if_neg (by decide), if_neg (by decide), if_neg (by omega), if_neg (by decide)] at hk; exact hk rfl
 have h9 : s[i].toNat ≠ 9 := by
  intro h; rw [h] at hk; rw [if_neg (by decide), if_neg (by decide), if_neg (by omega), if_neg (by decide)] at hk; exact hk rfl
 have h10 : s[i].toNat ≠ 10 := by
  intro h; rw [h] at hk; rw [if_neg (by decide), if_neg (by decide), if_neg (by omega), if_neg (by decide)] at hk; exact hk rfl
 constructor
 ·simpa using h35
 ·unfold isBl; simp [h32, h9, h10]
theorem extract_all (s : ByteArray) : s.extract 0 s.size = s := by
 apply ba_ext
 ·simp
 ·intro k hk
  rw [bt_extract _ _ _ _ (Nat.le_refl _)]
  simp at hk
  rw [if_pos (by omega), Nat.zero_add]
theorem extract_size {s : ByteArray} {a b : Nat} (h : b ≤ s.size) : (s.extract a b).size = b - a := by
 rw [ByteArray.size_extract]; omega
/-- one token alone -/
theorem one_iff (kind : Int) (s : ByteArray) : isTok kind s = true ↔ (scanOf s).2.2 = 0 ∧ ∃ t, (scanOf s).1 = [t] ∧ t.kind = kind ∧ t.text = s := by
 rw [isTok_iff]
 constructor
 ·rintro ⟨h1, h2, h3, h4⟩
  have hk := tokErr_kind h4
  obtain ⟨hi, g1, g2⟩ := tokAt_nobl hk
  have e : scanOf s = ([tokHere s 0], 0, 0) := by
   unfold scanOf
   rw [if_neg (by omega), scanG_tok hi g1 g2 h4, h3, scanG_end (by omega)]
   rfl
  rw [e]
  refine ⟨rfl, _, rfl, ?_, ?_⟩
  ·exact h2.symm
  ·show s.extract 0 (0 + (tokAt s 0).2) = s
   rw [h3, Nat.zero_add, extract_all]
 ·rintro ⟨h1, t, h2, h3, h4⟩
  have e : scanOf s = ([t], (scanOf s).2.1, 0) := by rw [← h1, ← h2]
  obtain ⟨g1, g2, _⟩ := scanOf_toks e
  obtain ⟨j, _, hj, ht, _⟩ := g2
  have hk := tokErr_kind hj
  have hp := tokAt_pos hk
  have h5 : s.extract j (j + (tokAt s j).2) = s := by rw [ht] at h4; exact h4
  have h6 := congrArg ByteArray.size h5
  rw [extract_size (by omega)] at h6
  obtain rfl : j = 0 := by omega
  refine ⟨g1, ?_, by omega, hj⟩
  rw [← h3, ht]
  rfl
theorem between_any (n a b : Int) (w : World) : Calls Tryz.prog 40 #[.int .i64 n, .int .i64 a, .int .i64 b] w fun r w' => r = .returned (.bool (decide (a ≤ n ∧ n ≤ b))) ∧ w = w' := by
 go_enter Tryz.func40, Tryz.ntmps40
 go_wp2
 all_goals go_ret
 all_goals refine ⟨ret_bool ?_, rfl⟩
 all_goals simp_all
 all_goals omega
theorem letter_any (b : Nat) (w : World) : Calls Tryz.prog 109 #[.int .u8 b] w fun r w' => r = .returned (.bool (isL b)) ∧ w = w' := by
 go_enter Tryz.func109, Tryz.ntmps109
 go_wp2
 all_goals go_ret
 all_goals refine ⟨ret_bool ?_, rfl⟩
 all_goals unfold isL
 all_goals rw [Bool.eq_iff_iff]
 all_goals simp
 all_goals omega
theorem digit_any (b : Nat) (w : World) : Calls Tryz.prog 112 #[.int .u8 b] w fun r w' => r = .returned (.bool (isD b)) ∧ w = w' := by
 go_enter Tryz.func112, Tryz.ntmps112
 go_wp2
 all_goals go_ret
 all_goals refine ⟨ret_bool ?_, rfl⟩
 all_goals unfold isD
 all_goals rw [Bool.eq_iff_iff]
 all_goals simp
 all_goals omega
theorem isLetter_any (b : Nat) (hb : b < 256) (w : World) : Calls Tryz.prog 145 #[.int .u8 b] w fun r w' => r = .returned (.bool (isL b)) ∧ w = w' := by
 go_enter Tryz.func145, Tryz.ntmps145
 go_wp2_with (go_at_call 40; refine (between_any _ _ _ _).mono ?_; rintro e w' ⟨rfl, rfl⟩)
 go_ret
 exact ⟨ret_bool (by rw [Bool.eq_iff_iff]; simp [isL]; omega), rfl⟩
theorem isDigit_any (b : Nat) (hb : b < 256) (w : World) : Calls Tryz.prog 95 #[.int .u8 b] w fun r w' => r = .returned (.bool (isD b)) ∧ w = w' := by
 go_enter Tryz.func95, Tryz.ntmps95
 go_wp2_with (go_at_call 40; refine (between_any _ _ _ _).mono ?_; rintro e w' ⟨rfl, rfl⟩)
 go_ret
 exact ⟨ret_bool (by rw [Bool.eq_iff_iff]; simp [isD]; omega), rfl⟩
theorem ld_any (b : Nat) (w : World) : Calls Tryz.prog 111 #[.int .u8 b] w fun r w' => r = .returned (.bool (isLD b)) ∧ w = w' := by
 unfold isLD
 cases h : isL b with
 | true =>
  go_enter Tryz.func111, Tryz.ntmps111
  go_wp2_with (go_at_call 109; refine (letter_any _ _).mono ?_; rintro e w' ⟨rfl, rfl⟩; simp only [h])
  go_ret
  exact ⟨rfl, rfl⟩
 | false =>
  go_enter Tryz.func111, Tryz.ntmps111
  go_wp2_with (first | (go_at_call 109; refine (letter_any _ _).mono ?_; rintro e w' ⟨rfl, rfl⟩; simp only [h]) | (go_at_call 112; refine (digit_any _ _).mono ?_; rintro e w' ⟨rfl, rfl⟩))
  go_ret
  exact ⟨rfl, rfl⟩
theorem runTo_step {p : Nat → Bool} {s : ByteArray} {i j : Nat} {b : Nat} (h : runTo p s i = runTo p s j) (hj : j < s.size) (hb : s[j].toNat = b) (hp : p b = true) : runTo p s i = runTo p s (j + 1) := by
 rw [h, runTo_go hj (by rw [hb]; exact hp)]
theorem runTo_done {p : Nat → Bool} {s : ByteArray} {i j : Nat} {b : Nat} (h : runTo p s i = runTo p s j) (hj : j < s.size) (hb : s[j].toNat = b) (hp : p b = false) : runTo p s i = j := by
 rw [h, runTo_stop hj (by rw [hb]; exact hp)]
def signs : ByteArray := ⟨#[123, 125, 40, 41, 91, 93, 59, 44, 61, 43, 45, 42, 47, 37, 60]⟩
theorem signs_size : signs.size = 15 := rfl
theorem signs_some {k : Nat} (h : k < signs.size) : isS signs[k].toNat = true := by
 have h' : k < 15 := h
 match k, h' with
 | 0, _ | 1, _ | 2, _ | 3, _ | 4, _ | 5, _ | 6, _ | 7, _ | 8, _ | 9, _ | 10, _ | 11, _ | 12, _ | 13, _ | 14, _ => rfl
theorem signs_none {c : Nat} (h : ∀ k (hk : k < signs.size), signs[k].toNat ≠ c) : isS c = false := by
 cases hc : isS c with
 | false => rfl
 | true =>
  have hm : c ∈ signL := by simpa [isS] using hc
  simp only [signL, List.mem_cons, List.not_mem_nil, or_false] at hm
  rcases hm with rfl | rfl | rfl | rfl | rfl | rfl | rfl | rfl | rfl | rfl | rfl | rfl | rfl | rfl | rfl
  ·exact absurd rfl (h 0 (by decide))
  ·exact absurd rfl (h 1 (by decide))
  ·exact absurd rfl (h 2 (by decide))
  ·exact absurd rfl (h 3 (by decide))
  ·exact absurd rfl (h 4 (by decide))
  ·exact absurd rfl (h 5 (by decide))
  ·exact absurd rfl (h 6 (by decide))
  ·exact absurd rfl (h 7 (by decide))
  ·exact absurd rfl (h 8 (by decide))
  ·exact absurd rfl (h 9 (by decide))
  ·exact absurd rfl (h 10 (by decide))
  ·exact absurd rfl (h 11 (by decide))
  ·exact absurd rfl (h 12 (by decide))
  ·exact absurd rfl (h 13 (by decide))
  ·exact absurd rfl (h 14 (by decide))
def TokRes (s : ByteArray) (i : Nat) (r : Ending) : Prop := r = .returned (.tuple #[.int .i64 (tokAt s i).1, .int .i64 (tokAt s i).2])
set_option maxHeartbeats 1000000 in
theorem tokenAt_ref (s : ByteArray) (i : Nat) (w : World) (hs : ok64 s.size) (hi : i < s.size) :
  Calls Tryz.prog 92 #[.string s, .int .i64 i] w fun r w' => TokRes s i r ∧ w = w' := by
 unfold ok64 at hs
 have hb2 : s[i].toNat < 256 := s[i].toNat_lt
 have HT : Hid (tokAt s i = if isL s[i].toNat then (1, runTo isLD s (i + 1) - i)
  else if isD s[i].toNat then (2, runTo isD s (i + 1) - i)
  else if s[i].toNat = 61 ∧ ∃ h : i + 1 < s.size, s[i + 1].toNat = 61 then (3, 2)
  else if isS s[i].toNat then (3, 1)
  else (0, 0)) := Hi_ (by unfold tokAt; rw [dif_pos hi])
 cases hL : isL s[i].toNat with
 | true =>
  have HT' : Hid (tokAt s i = (1, runTo isLD s (i + 1) - i)) := Hi_ (by rw [HT.out, if_pos hL])
  clear HT
  go_enter Tryz.func92, Tryz.ntmps92
  go_wp2_with (go_at_call 145; refine (isLetter_any _ hb2 _).mono ?_; rintro e w' ⟨rfl, rfl⟩; simp only [hL])
  clear hL
  go_loop [7] (fun n => ∃ k : Nat, 1 ≤ k ∧ i + k ≤ s.size ∧ n = .int .i64 k ∧ Hid (runTo isLD s (i + 1) = runTo isLD s (i + k))) (fun n => s.size - (intOf n).toNat)
  case atStart => exact ⟨1, by omega, by omega, rfl, rfl⟩
  case round =>
   obtain ⟨k, hk1, hk, rfl, HR⟩ := hrel
   by_cases hlt : i + k < s.size
   ·obtain ⟨b, hb⟩ : ∃ b, s[i + k].toNat = b := ⟨_, rfl⟩
    have hb3 : b < 256 := by rw [← hb]; exact s[i + k].toNat_lt
    cases h1 : isL b with
    | true =>
     have HR2 := Hi_ (runTo_step (p := isLD) HR.out hlt hb (by unfold isLD; rw [h1]; rfl))
     go_wp2_with (go_at_call 145; refine (isLetter_any _ hb3 _).mono ?_; rintro e w' ⟨rfl, rfl⟩; simp only [h1])
     go_round
     case rel => exact ⟨k + 1, by omega, by omega, by go_num, HR2⟩
     case measure => simp [intOf]; omega
    | false =>
     cases h2 : isD b with
     | true =>
      have HR2 := Hi_ (runTo_step (p := isLD) HR.out hlt hb (by unfold isLD; rw [h1, h2]; rfl))
      go_wp2_with (first | (go_at_call 145; refine (isLetter_any _ hb3 _).mono ?_; rintro e w' ⟨rfl, rfl⟩; simp only [h1]) | (go_at_call 95; refine (isDigit_any _ hb3 _).mono ?_; rintro e w' ⟨rfl, rfl⟩; simp only [h2]))
      go_round
      case rel => exact ⟨k + 1, by omega, by omega, by go_num, HR2⟩
      case measure => simp [intOf]; omega
     | false =>
      have HR2 := Hi_ (runTo_done (p := isLD) HR.out hlt hb (by unfold isLD; rw [h1, h2]; rfl))
      go_wp2_with (first | (go_at_call 145; refine (isLetter_any _ hb3 _).mono ?_; rintro e w' ⟨rfl, rfl⟩; simp only [h1]) | (go_at_call 95; refine (isDigit_any _ hb3 _).mono ?_; rintro e w' ⟨rfl, rfl⟩; simp only [h2]))
      go_ret2
      refine ⟨?_, rfl⟩
      unfold TokRes
      rw [HT'.out, HR2.out]
      simp only [Nat.add_sub_cancel_left]
      rfl
   ·have HR2 : Hid (runTo isLD s (i + 1) = i + k) := Hi_ (by rw [HR.out, runTo_end hlt])
    go_wp2
    go_ret2
    refine ⟨?_, rfl⟩
    unfold TokRes
    rw [HT'.out, HR2.out]
    simp only [Nat.add_sub_cancel_left]
    rfl
 | false =>
  cases hD : isD s[i].toNat with
  | true =>
   have HT' : Hid (tokAt s i = (2, runTo isD s (i + 1) - i)) := Hi_ (by rw [HT.out, if_neg (by simp [hL]), if_pos hD])
   clear HT
   go_enter Tryz.func92, Tryz.ntmps92
   go_wp2_with (first | (go_at_call 145; refine (isLetter_any _ hb2 _).mono ?_; rintro e w' ⟨rfl, rfl⟩; simp only [hL]) | (go_at_call 95; refine (isDigit_any _ hb2 _).mono ?_; rintro e w' ⟨rfl, rfl⟩; simp only [hD]))
   clear hL hD
   go_loop [7] (fun n => ∃ k : Nat, 1 ≤ k ∧ i + k ≤ s.size ∧ n = .int .i64 k ∧ Hid (runTo isD s (i + 1) = runTo isD s (i + k))) (fun n => s.size - (intOf n).toNat)
   case atStart => exact ⟨1, by omega, by omega, rfl, rfl⟩
   case round =>
    obtain ⟨k, hk1, hk, rfl, HR⟩ := hrel
    by_cases hlt : i + k < s.size
    ·obtain ⟨b, hb⟩ : ∃ b, s[i + k].toNat = b := ⟨_, rfl⟩
     have hb3 : b < 256 := by rw [← hb]; exact s[i + k].toNat_lt
     cases h2 : isD b with
     | true =>
      have HR2 := Hi_ (runTo_step (p := isD) HR.out hlt hb h2)
      go_wp2_with (go_at_call 95; refine (isDigit_any _ hb3 _).mono ?_; rintro e w' ⟨rfl, rfl⟩; simp only [h2])
      go_round
      case rel => exact ⟨k + 1, by omega, by omega, by go_num, HR2⟩
      case measure => simp [intOf]; omega
     | false =>
      have HR2 := Hi_ (runTo_done (p := isD) HR.out hlt hb h2)
      go_wp2_with (go_at_call 95; refine (isDigit_any _ hb3 _).mono ?_; rintro e w' ⟨rfl, rfl⟩; simp only [h2])
      go_ret2
      refine ⟨?_, rfl⟩
      unfold TokRes
      rw [HT'.out, HR2.out]
      simp only [Nat.add_sub_cancel_left]
      rfl
    ·have HR2 : Hid (runTo isD s (i + 1) = i + k) := Hi_ (by rw [HR.out, runTo_end hlt])
     go_wp2
     go_ret2
     refine ⟨?_, rfl⟩
     unfold TokRes
     rw [HT'.out, HR2.out]
     simp only [Nat.add_sub_cancel_left]
     rfl
  | false =>
   have HT' : Hid (tokAt s i = if s[i].toNat = 61 ∧ ∃ h : i + 1 < s.size, s[i + 1].toNat = 61 then (3, 2)
    else if isS s[i].toNat then (3, 1) else (0, 0)) := Hi_ (by rw [HT.out, if_neg (by simp [hL]), if_neg (by simp [hD])])
   clear HT
   by_cases h2 : s[i].toNat = 61 ∧ ∃ h : i + 1 < s.size, s[i + 1].toNat = 61
   ·have HT2 : Hid (tokAt s i = (3, 2)) := Hi_ (by rw [HT'.out, if_pos h2])
    obtain ⟨h3, h4, h5⟩ := h2
    have d1 : ((s[i].toNat : Int) == 61) = true := by simp; omega
    have d2 : ((s[i + 1].toNat : Int) == 61) = true := by simp; omega
    clear h3 h5
    go_enter Tryz.func92, Tryz.ntmps92
    go_wp2_with (first | (go_at_call 145; refine (isLetter_any _ hb2 _).mono ?_; rintro e w' ⟨rfl, rfl⟩; simp only [hL]) | (go_at_call 95; refine (isDigit_any _ hb2 _).mono ?_; rintro e w' ⟨rfl, rfl⟩; simp only [hD]))
    go_ret2
    exact ⟨by unfold TokRes; rw [HT2.out]; rfl, rfl⟩
   ·have HT2 : Hid (tokAt s i = if isS s[i].toNat then (3, 1) else (0, 0)) := Hi_ (by rw [HT'.out, if_neg h2])
    clear HT'
    have HG : Hid (s[i].toNat = 61 → ∀ h : i + 1 < s.size, s[i + 1].toNat ≠ 61) := Hi_ (fun h3 h4 h5 => h2 ⟨h3, h4, h5⟩)
    clear h2
    have hsz := signs_size
    by_cases h61 : s[i].toNat = 61
    ·have d1 : ((s[i].toNat : Int) == 61) = true := by simp; omega
     by_cases h1 : i + 1 < s.size
     ·have d2 : ((s[i + 1].toNat : Int) == 61) = false := by have := HG.out h61 h1; simp; omega
      have H61 := Hi_ h61; clear h61
      have hlit : (⟨#[123, 125, 40, 41, 91, 93, 59, 44, 61, 43, 45, 42, 47, 37, 60]⟩ : ByteArray) = signs := rfl
      go_enter Tryz.func92, Tryz.ntmps92
      go_wp2_with (first | (go_at_call 145; refine (isLetter_any _ hb2 _).mono ?_; rintro e w' ⟨rfl, rfl⟩; simp only [hL]) | (go_at_call 95; refine (isDigit_any _ hb2 _).mono ?_; rintro e w' ⟨rfl, rfl⟩; simp only [hD]))
      clear hL hD
      go_loop [9] (fun n => ∃ k : Nat, k ≤ 15 ∧ n = .int .i64 k ∧ Hid (∀ j (hj : j < signs.size), j < k → signs[j].toNat ≠ s[i].toNat)) (fun n => 15 - (intOf n).toNat)
      case atStart => exact ⟨0, by omega, rfl, fun j _ h => absurd h (by omega)⟩
      case round =>
       obtain ⟨k, hk, rfl, HK⟩ := hrel
       by_cases hlt : k < signs.size
       ·by_cases heq : signs[k].toNat = s[i].toNat
        ·have d3 : ((signs[k].toNat : Int) == (s[i].toNat : Int)) = true := by simp; omega
         have HS := Hi_ (signs_some hlt)
         have HE := Hi_ heq; clear heq
         go_wp2
         go_ret2
         exact ⟨by unfold TokRes; rw [HT2.out, ← HE.out, if_pos HS.out]; rfl, rfl⟩
        ·have d3 : ((signs[k].toNat : Int) == (s[i].toNat : Int)) = false := by simp; omega
         have HE := Hi_ heq; clear heq
         go_wp2
         go_round
         case rel =>
          refine ⟨k + 1, by omega, by go_num, fun j hj h => ?_⟩
          by_cases hjk : j = k
          ·subst hjk; exact HE.out
          ·exact HK.out j hj (by omega)
         case measure => simp [intOf]; omega
       ·have HS := Hi_ (signs_none (c := s[i].toNat) (fun j hj => HK.out j hj (by omega)))
        go_wp2
        go_ret2
        exact ⟨by unfold TokRes; rw [HT2.out, if_neg (by simp [HS.out])]; rfl, rfl⟩
     ·have H61 := Hi_ h61; clear h61
      have hlit : (⟨#[123, 125, 40, 41, 91, 93, 59, 44, 61, 43, 45, 42, 47, 37, 60]⟩ : ByteArray) = signs := rfl
      go_enter Tryz.func92, Tryz.ntmps92
      go_wp2_with (first | (go_at_call 145; refine (isLetter_any _ hb2 _).mono ?_; rintro e w' ⟨rfl, rfl⟩; simp only [hL]) | (go_at_call 95; refine (isDigit_any _ hb2 _).mono ?_; rintro e w' ⟨rfl, rfl⟩; simp only [hD]))
      clear hL hD
      go_loop [9] (fun n => ∃ k : Nat, k ≤ 15 ∧ n = .int .i64 k ∧ Hid (∀ j (hj : j < signs.size), j < k → signs[j].toNat ≠ s[i].toNat)) (fun n => 15 - (intOf n).toNat)
      case atStart => exact ⟨0, by omega, rfl, fun j _ h => absurd h (by omega)⟩
      case round =>
       obtain ⟨k, hk, rfl, HK⟩ := hrel
       by_cases hlt : k < signs.size
       ·by_cases heq : signs[k].toNat = s[i].toNat
        ·have d3 : ((signs[k].toNat : Int) == (s[i].toNat : Int)) = true := by simp; omega
         have HS := Hi_ (signs_some hlt)
         have HE := Hi_ heq; clear heq
         go_wp2
         go_ret2
         exact ⟨by unfold TokRes; rw [HT2.out, ← HE.out, if_pos HS.out]; rfl, rfl⟩
        ·have d3 : ((signs[k].toNat : Int) == (s[i].toNat : Int)) = false := by simp; omega
         have HE := Hi_ heq; clear heq
         go_wp2
         go_round
         case rel =>
          refine ⟨k + 1, by omega, by go_num, fun j hj h => ?_⟩
          by_cases hjk : j = k
          ·subst hjk; exact HE.out
          ·exact HK.out j hj (by omega)
         case measure => simp [intOf]; omega
       ·have HS := Hi_ (signs_none (c := s[i].toNat) (fun j hj => HK.out j hj (by omega)))
        go_wp2
        go_ret2
        exact ⟨by unfold TokRes; rw [HT2.out, if_neg (by simp [HS.out])]; rfl, rfl⟩
    ·have d1 : ((s[i].toNat : Int) == 61) = false := by simp; omega
     have H61 := Hi_ h61; clear h61
     have hlit : (⟨#[123, 125, 40, 41, 91, 93, 59, 44, 61, 43, 45, 42, 47, 37, 60]⟩ : ByteArray) = signs := rfl
     go_enter Tryz.func92, Tryz.ntmps92
     go_wp2_with (first | (go_at_call 145; refine (isLetter_any _ hb2 _).mono ?_; rintro e w' ⟨rfl, rfl⟩; simp only [hL]) | (go_at_call 95; refine (isDigit_any _ hb2 _).mono ?_; rintro e w' ⟨rfl, rfl⟩; simp only [hD]))
     clear hL hD
     go_loop [9] (fun n => ∃ k : Nat, k ≤ 15 ∧ n = .int .i64 k ∧ Hid (∀ j (hj : j < signs.size), j < k → signs[j].toNat ≠ s[i].toNat)) (fun n => 15 - (intOf n).toNat)
     case atStart => exact ⟨0, by omega, rfl, fun j _ h => absurd h (by omega)⟩
     case round =>
      obtain ⟨k, hk, rfl, HK⟩ := hrel
      by_cases hlt : k < signs.size
      ·by_cases heq : signs[k].toNat = s[i].toNat
       ·have d3 : ((signs[k].toNat : Int) == (s[i].toNat : Int)) = true := by simp; omega
        have HS := Hi_ (signs_some hlt)
        have HE := Hi_ heq; clear heq
        go_wp2
        go_ret2
        exact ⟨by unfold TokRes; rw [HT2.out, ← HE.out, if_pos HS.out]; rfl, rfl⟩
       ·have d3 : ((signs[k].toNat : Int) == (s[i].toNat : Int)) = false := by simp; omega
        have HE := Hi_ heq; clear heq
        go_wp2
        go_round
        case rel =>
         refine ⟨k + 1, by omega, by go_num, fun j hj h => ?_⟩
         by_cases hjk : j = k
         ·subst hjk; exact HE.out
         ·exact HK.out j hj (by omega)
        case measure => simp [intOf]; omega
      ·have HS := Hi_ (signs_none (c := s[i].toNat) (fun j hj => HK.out j hj (by omega)))
       go_wp2
       go_ret2
       exact ⟨by unfold TokRes; rw [HT2.out, if_neg (by simp [HS.out])]; rfl, rfl⟩
theorem toList_loop (a : ByteArray) : ∀ (n i : Nat) (r : List UInt8), a.size - i = n → ByteArray.toList.loop a i r = r.reverse ++ a.data.toList.drop i
 | n, i, r, hn => by
  rw [ByteArray.toList.loop]
  by_cases h : i < a.size
  ·rw [if_pos h, toList_loop a (n - 1) (i + 1) _ (by omega)]
   have h2 : i < a.data.toList.length := by simpa using h
   rw [List.drop_eq_getElem_cons h2, List.reverse_cons, List.append_assoc]
   congr 1
   show a.get! i :: _ = _
   have : a.get! i = a.data.toList[i] := by
    show a.data[i]! = _
    rw [getElem!_pos a.data i (by simpa using h)]
    simp
   rw [this]
   rfl
  ·rw [if_neg h, List.drop_of_length_le (by simpa using h), List.append_nil]
termination_by n => n
theorem toList_data (a : ByteArray) : a.toList = a.data.toList := by
 rw [ByteArray.toList, toList_loop a _ 0 [] rfl]; simp
theorem str_eq (a b : ByteArray) : (a.toList == b.toList) = decide (a = b) := by
 rw [toList_data, toList_data, Bool.eq_iff_iff]
 simp
 constructor
 ·intro h; cases a; cases b; simp at h; rw [h]
 ·intro h; rw [h]
theorem str_true {a b : ByteArray} (h : a = b) : (a.toList == b.toList) = true := by rw [str_eq]; exact decide_eq_true h
theorem str_false {a b : ByteArray} (h : a ≠ b) : (a.toList == b.toList) = false := by rw [str_eq]; exact decide_eq_false h
def Tok.cells (t : Tok) : List Value := [.int .i64 t.kind, .int .i64 t.at_, .string t.text]
def tokR : Rep Tok where
 size := 3
 R _ cs e := cs = e.cells
 len h := by subst h; rfl
 keep _ h := h
def TokAtC (w : World) (b o : Nat) (e : Tok) : Prop := w.cell? ⟨b, o, none⟩ = some (.int .i64 e.kind) ∧ w.cell? ⟨b, o + 1, none⟩ = some (.int .i64 e.at_) ∧ w.cell? ⟨b, o + 2, none⟩ = some (.string e.text)
theorem tokR.cells {w : World} {b o : Nat} {xs : List Tok} (h : ∀ k x, xs[k]? = some x → tokR.At w b (o + k * tokR.size) x) {k : Nat} {x : Tok} (hk : xs[k]? = some x) : TokAtC w b (o + k * 3) x := by
 obtain ⟨cs, hc, hcs⟩ := h k x hk
 have e : cs = x.cells := hc
 subst e
 exact ⟨hcs 0 _ rfl, hcs 1 _ rfl, hcs 2 _ rfl⟩
theorem flat_cut {α : Type} {f : α → List Value} {n : Nat} (hf : ∀ x, (f x).length = n) : ∀ (xs : List α) (k : Nat) (x : α), xs[k]? = some x → ((xs.flatMap f).drop (k * n)).take n = f x
 | [], k, x, h => by simp at h
 | y :: ys, 0, x, h => by
  obtain rfl : y = x := by simpa using h
  rw [List.flatMap_cons, Nat.zero_mul, List.drop_zero, List.take_append_of_le_length (by rw [hf]; exact Nat.le_refl _), List.take_of_length_le (by rw [hf]; exact Nat.le_refl _)]
 | y :: ys, k + 1, x, h => by
  rw [List.flatMap_cons, List.drop_append, List.drop_of_length_le (by rw [hf, Nat.add_mul]; omega), List.nil_append, hf, show (k + 1) * n - n = k * n by rw [Nat.add_mul]; omega]
  exact flat_cut hf ys k x (by simpa using h)
theorem Sl.own_tok {w : World} {base : Nat} {e : TypeId} {v : Value} {n : Nat} {xs : List Tok} (h : w.ownsRow base e 3 v n (xs.flatMap Tok.cells)) (hn : n = xs.length) : Sl tokR w v xs :=
 Sl.own (r := tokR) h hn fun k x hx => flat_cut (n := 3) (fun _ => rfl) xs k x hx
def emp : ByteArray := ⟨#[]⟩
end Go.Proofs.YtmfjlcpjemccmaaGreatDoor
