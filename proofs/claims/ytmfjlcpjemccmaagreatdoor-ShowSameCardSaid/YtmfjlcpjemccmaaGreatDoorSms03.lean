/- Letters, digits, the document's token at a place. Strings as the walk compares them. No conditions. Tokens in memory; whether two lists of tokens are one. Tokens joined, in plain words: what is joined is scanned as it was. Trees in plain words: how great they are, what is wrong with them, their texts. Each lemma states its own conditions. -/
import Derived.Test.YtmfjlcpjemccmaaGreatDoorSms02
import Derived.Test.YtmfjlcpjemccmaaGreatDoorSms01
import Derived.Outline
import Derived.Deep.QuietTactic
import Derived.BigQuiet
import Derived.WalkLawsBesides
import Derived.WalkSpells
namespace Go.Proofs.YtmfjlcpjemccmaaGreatDoor
open Go.RowKit
theorem letter_any (b : Nat) (w : World) : Calls Tryz.prog 109 #[.int .u8 b] w fun r w' => r = .returned (.bool (isL b)) ∧ w = w' := by
 go_enter Tryz.func109, Tryz.ntmps109
 go_wp2
 all_goals go_ret
 all_goals refine ⟨ret_bool ?_, rfl⟩
 all_goals unfold isL
 all_goals rw [Bool.eq_iff_iff]
 all_goals simp
 all_goals omega
theorem digit_any (b : Nat) (w : World) : Calls Tryz.prog 112 #[.int .u8 b] w fun r w' => r = .returned (.bool (isD b)) ∧ w = w' := by
 go_enter Tryz.func112, Tryz.ntmps112
 go_wp2
 all_goals go_ret
 all_goals refine ⟨ret_bool ?_, rfl⟩
 all_goals unfold isD
 all_goals rw [Bool.eq_iff_iff]
 all_goals simp
 all_goals omega
theorem isLetter_any (b : Nat) (hb : b < 256) (w : World) : Calls Tryz.prog 145 #[.int .u8 b] w fun r w' => r = .returned (.bool (isL b)) ∧ w = w' := by
 go_enter Tryz.func145, Tryz.ntmps145
 go_wp2_with (go_at_call 40; refine (between_any _ _ _ _).mono ?_; rintro e w' ⟨rfl, rfl⟩)
 go_ret
 exact ⟨ret_bool (by rw [Bool.eq_iff_iff]; simp [isL]; omega), rfl⟩
theorem isDigit_any (b : Nat) (hb : b < 256) (w : World) : Calls Tryz.prog 95 #[.int .u8 b] w fun r w' => r = .returned (.bool (isD b)) ∧ w = w' := by
 go_enter Tryz.func95, Tryz.ntmps95
 go_wp2_with (go_at_call 40; refine (between_any _ _ _ _).mono ?_; rintro e w' ⟨rfl, rfl⟩)
 go_ret
 exact ⟨ret_bool (by rw [Bool.eq_iff_iff]; simp [isD]; omega), rfl⟩
theorem ld_any (b : Nat) (w : World) : Calls Tryz.prog 111 #[.int .u8 b] w fun r w' => r = .returned (.bool (isLD b)) ∧ w = w' := by
 unfold isLD
 cases h : isL b with
 | true =>
  go_enter Tryz.func111, Tryz.ntmps111
  go_wp2_with (go_at_call 109; refine (letter_any _ _).mono ?_; rintro e w' ⟨rfl, rfl⟩; simp only [h])
  go_ret
  exact ⟨rfl, rfl⟩
 | false =>
  go_enter Tryz.func111, Tryz.ntmps111
  go_wp2_with (first | (go_at_call 109; refine (letter_any _ _).mono ?_; rintro e w' ⟨rfl, rfl⟩; simp only [h]) | (go_at_call 112; refine (digit_any _ _).mono ?_; rintro e w' ⟨rfl, rfl⟩))
  go_ret
  exact ⟨rfl, rfl⟩
theorem runTo_step {p : Nat → Bool} {s : ByteArray} {i j : Nat} {b : Nat} (h : runTo p s i = runTo p s j) (hj : j < s.size) (hb : s[j].toNat = b) (hp : p b = true) : runTo p s i = runTo p s (j + 1) := by
 rw [h, runTo_go hj (by rw [hb]; exact hp)]
theorem runTo_done {p : Nat → Bool} {s : ByteArray} {i j : Nat} {b : Nat} (h : runTo p s i = runTo p s j) (hj : j < s.size) (hb : s[j].toNat = b) (hp : p b = false) : runTo p s i = j := by
 rw [h, runTo_stop hj (by rw [hb]; exact hp)]
def signs : ByteArray := ⟨#[123, 125, 40, 41, 91, 93, 59, 44, 61, 43, 45, 42, 47, 37, 60]⟩
theorem signs_size : signs.size = 15 := rfl
theorem signs_some {k : Nat} (h : k < signs.size) : isS signs[k].toNat = true := by
 have h' : k < 15 := h
 match k, h' with
 | 0, _ | 1, _ | 2, _ | 3, _ | 4, _ | 5, _ | 6, _ | 7, _ | 8, _ | 9, _ | 10, _ | 11, _ | 12, _ | 13, _ | 14, _ => rfl
theorem signs_none {c : Nat} (h : ∀ k (hk : k < signs.size), signs[k].toNat ≠ c) : isS c = false := by
 cases hc : isS c with
 | false => rfl
 | true =>
  have hm : c ∈ signL := by simpa [isS] using hc
  simp only [signL, List.mem_cons, List.not_mem_nil, or_false] at hm
  rcases hm with rfl | rfl | rfl | rfl | rfl | rfl | rfl | rfl | rfl | rfl | rfl | rfl | rfl | rfl | rfl
  ·exact absurd rfl (h 0 (by decide))
  ·exact absurd rfl (h 1 (by decide))
  ·exact absurd rfl (h 2 (by decide))
  ·exact absurd rfl (h 3 (by decide))
  ·exact absurd rfl (h 4 (by decide))
  ·exact absurd rfl (h 5 (by decide))
  ·exact absurd rfl (h 6 (by decide))
  ·exact absurd rfl (h 7 (by decide))
  ·exact absurd rfl (h 8 (by decide))
  ·exact absurd rfl (h 9 (by decide))
  ·exact absurd rfl (h 10 (by decide))
  ·exact absurd rfl (h 11 (by decide))
  ·exact absurd rfl (h 12 (by decide))
  ·exact absurd rfl (h 13 (by decide))
  ·exact absurd rfl (h 14 (by decide))
def TokRes (s : ByteArray) (i : Nat) (r : Ending) : Prop := r = .returned (.tuple #[.int .i64 (tokAt s i).1, .int .i64 (tokAt s i).2])
set_option maxHeartbeats 1000000 in
theorem tokenAt_ref (s : ByteArray) (i : Nat) (w : World) (hs : ok64 s.size) (hi : i < s.size) :
  Calls Tryz.prog 92 #[.string s, .int .i64 i] w fun r w' => TokRes s i r ∧ w = w' := by
 unfold ok64 at hs
 have hb2 : s[i].toNat < 256 := s[i].toNat_lt
 have HT : Hid (tokAt s i = if isL s[i].toNat then (1, runTo isLD s (i + 1) - i)
  else if isD s[i].toNat then (2, runTo isD s (i + 1) - i)
  else if s[i].toNat = 61 ∧ ∃ h : i + 1 < s.size, s[i + 1].toNat = 61 then (3, 2)
  else if isS s[i].toNat then (3, 1)
  else (0, 0)) := Hi_ (by unfold tokAt; rw [dif_pos hi])
 cases hL : isL s[i].toNat with
 | true =>
  have HT' : Hid (tokAt s i = (1, runTo isLD s (i + 1) - i)) := Hi_ (by rw [HT.out, if_pos hL])
  clear HT
  go_enter Tryz.func92, Tryz.ntmps92
  go_wp2_with (go_at_call 145; refine (isLetter_any _ hb2 _).mono ?_; rintro e w' ⟨rfl, rfl⟩; simp only [hL])
  clear hL
  go_loop [7] (fun n => ∃ k : Nat, 1 ≤ k ∧ i + k ≤ s.size ∧ n = .int .i64 k ∧ Hid (runTo isLD s (i + 1) = runTo isLD s (i + k))) (fun n => s.size - (intOf n).toNat)
  case atStart => exact ⟨1, by omega, by omega, rfl, rfl⟩
  case round =>
   obtain ⟨k, hk1, hk, rfl, HR⟩ := hrel
   by_cases hlt : i + k < s.size
   ·obtain ⟨b, hb⟩ : ∃ b, s[i + k].toNat = b := ⟨_, rfl⟩
    have hb3 : b < 256 := by rw [← hb]; exact s[i + k].toNat_lt
    cases h1 : isL b with
    | true =>
     have HR2 := Hi_ (runTo_step (p := isLD) HR.out hlt hb (by unfold isLD; rw [h1]; rfl))
     go_wp2_with (go_at_call 145; refine (isLetter_any _ hb3 _).mono ?_; rintro e w' ⟨rfl, rfl⟩; simp only [h1])
     go_round
     case rel => exact ⟨k + 1, by omega, by omega, by go_num, HR2⟩
     case measure => simp [intOf]; omega
    | false =>
     cases h2 : isD b with
     | true =>
      have HR2 := Hi_ (runTo_step (p := isLD) HR.out hlt hb (by unfold isLD; rw [h1, h2]; rfl))
      go_wp2_with (first | (go_at_call 145; refine (isLetter_any _ hb3 _).mono ?_; rintro e w' ⟨rfl, rfl⟩; simp only [h1]) | (go_at_call 95; refine (isDigit_any _ hb3 _).mono ?_; rintro e w' ⟨rfl, rfl⟩; simp only [h2]))
      go_round
      case rel => exact ⟨k + 1, by omega, by omega, by go_num, HR2⟩
      case measure => simp [intOf]; omega
     | false =>
      have HR2 := Hi_ (runTo_done (p := isLD) HR.out hlt hb (by unfold isLD; rw [h1, h2]; rfl))
      go_wp2_with (first | (go_at_call 145; refine (isLetter_any _ hb3 _).mono ?_; rintro e w' ⟨rfl, rfl⟩; simp only [h1]) | (go_at_call 95; refine (isDigit_any _ hb3 _).mono ?_; rintro e w' ⟨rfl, rfl⟩; simp only [h2]))
      go_ret2
      refine ⟨?_, rfl⟩
      unfold TokRes
      rw [HT'.out, HR2.out]
      simp only [Nat.add_sub_cancel_left]
      rfl
   ·have HR2 : Hid (runTo isLD s (i + 1) = i + k) := Hi_ (by rw [HR.out, runTo_end hlt])
    go_wp2
    go_ret2
    refine ⟨?_, rfl⟩
    unfold TokRes
    rw [HT'.out, HR2.out]
    simp only [Nat.add_sub_cancel_left]
    rfl
 | false =>
  cases hD : isD s[i].toNat with
  | true =>
   have HT' : Hid (tokAt s i = (2, runTo isD s (i + 1) - i)) := Hi_ (by rw [HT.out, if_neg (by simp [hL]), if_pos hD])
   clear HT
   go_enter Tryz.func92, Tryz.ntmps92
   go_wp2_with (first | (go_at_call 145; refine (isLetter_any _ hb2 _).mono ?_; rintro e w' ⟨rfl, rfl⟩; simp only [hL]) | (go_at_call 95; refine (isDigit_any _ hb2 _).mono ?_; rintro e w' ⟨rfl, rfl⟩; simp only [hD]))
   clear hL hD
   go_loop [7] (fun n => ∃ k : Nat, 1 ≤ k ∧ i + k ≤ s.size ∧ n = .int .i64 k ∧ Hid (runTo isD s (i + 1) = runTo isD s (i + k))) (fun n => s.size - (intOf n).toNat)
   case atStart => exact ⟨1, by omega, by omega, rfl, rfl⟩
   case round =>
    obtain ⟨k, hk1, hk, rfl, HR⟩ := hrel
    by_cases hlt : i + k < s.size
    ·obtain ⟨b, hb⟩ : ∃ b, s[i + k].toNat = b := ⟨_, rfl⟩
     have hb3 : b < 256 := by rw [← hb]; exact s[i + k].toNat_lt
     cases h2 : isD b with
     | true =>
      have HR2 := Hi_ (runTo_step (p := isD) HR.out hlt hb h2)
      go_wp2_with (go_at_call 95; refine (isDigit_any _ hb3 _).mono ?_; rintro e w' ⟨rfl, rfl⟩; simp only [h2])
      go_round
      case rel => exact ⟨k + 1, by omega, by omega, by go_num, HR2⟩
      case measure => simp [intOf]; omega
     | false =>
      have HR2 := Hi_ (runTo_done (p := isD) HR.out hlt hb h2)
      go_wp2_with (go_at_call 95; refine (isDigit_any _ hb3 _).mono ?_; rintro e w' ⟨rfl, rfl⟩; simp only [h2])
      go_ret2
      refine ⟨?_, rfl⟩
      unfold TokRes
      rw [HT'.out, HR2.out]
      simp only [Nat.add_sub_cancel_left]
      rfl
    ·have HR2 : Hid (runTo isD s (i + 1) = i + k) := Hi_ (by rw [HR.out, runTo_end hlt])
     go_wp2
     go_ret2
     refine ⟨?_, rfl⟩
     unfold TokRes
     rw [HT'.out, HR2.out]
     simp only [Nat.add_sub_cancel_left]
     rfl
  | false =>
   have HT' : Hid (tokAt s i = if s[i].toNat = 61 ∧ ∃ h : i + 1 < s.size, s[i + 1].toNat = 61 then (3, 2)
    else if isS s[i].toNat then (3, 1) else (0, 0)) := Hi_ (by rw [HT.out, if_neg (by simp [hL]), if_neg (by simp [hD])])
   clear HT
   by_cases h2 : s[i].toNat = 61 ∧ ∃ h : i + 1 < s.size, s[i + 1].toNat = 61
   ·have HT2 : Hid (tokAt s i = (3, 2)) := Hi_ (by rw [HT'.out, if_pos h2])
    obtain ⟨h3, h4, h5⟩ := h2
    have d1 : ((s[i].toNat : Int) == 61) = true := by simp; omega
    have d2 : ((s[i + 1].toNat : Int) == 61) = true := by simp; omega
    clear h3 h5
    go_enter Tryz.func92, Tryz.ntmps92
    go_wp2_with (first | (go_at_call 145; refine (isLetter_any _ hb2 _).mono ?_; rintro e w' ⟨rfl, rfl⟩; simp only [hL]) | (go_at_call 95; refine (isDigit_any _ hb2 _).mono ?_; rintro e w' ⟨rfl, rfl⟩; simp only [hD]))
    go_ret2
    exact ⟨by unfold TokRes; rw [HT2.out]; rfl, rfl⟩
   ·have HT2 : Hid (tokAt s i = if isS s[i].toNat then (3, 1) else (0, 0)) := Hi_ (by rw [HT'.out, if_neg h2])
    clear HT'
    have HG : Hid (s[i].toNat = 61 → ∀ h : i + 1 < s.size, s[i + 1].toNat ≠ 61) := Hi_ (fun h3 h4 h5 => h2 ⟨h3, h4, h5⟩)
    clear h2
    have hsz := signs_size
    by_cases h61 : s[i].toNat = 61
    ·have d1 : ((s[i].toNat : Int) == 61) = true := by simp; omega
     by_cases h1 : i + 1 < s.size
     ·have d2 : ((s[i + 1].toNat : Int) == 61) = false := by have := HG.out h61 h1; simp; omega
      have H61 := Hi_ h61; clear h61
      have hlit : (⟨#[123, 125, 40, 41, 91, 93, 59, 44, 61, 43, 45, 42, 47, 37, 60]⟩ : ByteArray) = signs := rfl
      go_enter Tryz.func92, Tryz.ntmps92
      go_wp2_with (first | (go_at_call 145; refine (isLetter_any _ hb2 _).mono ?_; rintro e w' ⟨rfl, rfl⟩; simp only [hL]) | (go_at_call 95; refine (isDigit_any _ hb2 _).mono ?_; rintro e w' ⟨rfl, rfl⟩; simp only [hD]))
      clear hL hD
      go_loop [9] (fun n => ∃ k : Nat, k ≤ 15 ∧ n = .int .i64 k ∧ Hid (∀ j (hj : j < signs.size), j < k → signs[j].toNat ≠ s[i].toNat)) (fun n => 15 - (intOf n).toNat)
      case atStart => exact ⟨0, by omega, rfl, fun j _ h => absurd h (by omega)⟩
      case round =>
       obtain ⟨k, hk, rfl, HK⟩ := hrel
       by_cases hlt : k < signs.size
       ·by_cases heq : signs[k].toNat = s[i].toNat
        ·have d3 : ((signs[k].toNat : Int) == (s[i].toNat : Int)) = true := by simp; omega
         have HS := Hi_ (signs_some hlt)
         have HE := Hi_ heq; clear heq
         go_wp2
         go_ret2
         exact ⟨by unfold TokRes; rw [HT2.out, ← HE.out, if_pos HS.out]; rfl, rfl⟩
        ·have d3 : ((signs[k].toNat : Int) == (s[i].toNat : Int)) = false := by simp; omega
         have HE := Hi_ heq; clear heq
         go_wp2
         go_round
         case rel =>
          refine ⟨k + 1, by omega, by go_num, fun j hj h => ?_⟩
          by_cases hjk : j = k
          ·subst hjk; exact HE.out
          ·exact HK.out j hj (by omega)
         case measure => simp [intOf]; omega
       ·have HS := Hi_ (signs_none (c := s[i].toNat) (fun j hj => HK.out j hj (by omega)))
        go_wp2
        go_ret2
        exact ⟨by unfold TokRes; rw [HT2.out, if_neg (by simp [HS.out])]; rfl, rfl⟩
     ·have H61 := Hi_ h61; clear h61
      have hlit : (⟨#[123, 125, 40, 41, 91, 93, 59, 44, 61, 43, 45, 42, 47, 37, 60]⟩ : ByteArray) = signs := rfl
      go_enter Tryz.func92, Tryz.ntmps92
      go_wp2_with (first | (go_at_call 145; refine (isLetter_any _ hb2 _).mono ?_; rintro e w' ⟨rfl, rfl⟩; simp only [hL]) | (go_at_call 95; refine (isDigit_any _ hb2 _).mono ?_; rintro e w' ⟨rfl, rfl⟩; simp only [hD]))
      clear hL hD
      go_loop [9] (fun n => ∃ k : Nat, k ≤ 15 ∧ n = .int .i64 k ∧ Hid (∀ j (hj : j < signs.size), j < k → signs[j].toNat ≠ s[i].toNat)) (fun n => 15 - (intOf n).toNat)
      case atStart => exact ⟨0, by omega, rfl, fun j _ h => absurd h (by omega)⟩
      case round =>
       obtain ⟨k, hk, rfl, HK⟩ := hrel
       by_cases hlt : k < signs.size
       ·by_cases heq : signs[k].toNat = s[i].toNat
        ·have d3 : ((signs[k].toNat : Int) == (s[i].toNat : Int)) = true := by simp; omega
         have HS := Hi_ (signs_some hlt)
         have HE := Hi_ heq; clear heq
         go_wp2
         go_ret2
         exact ⟨by unfold TokRes; rw [HT2.out, ← HE.out, if_pos HS.out]; rfl, rfl⟩
        ·have d3 : ((signs[k].toNat : Int) == (s[i].toNat : Int)) = false := by simp; omega
         have HE := Hi_ heq; clear heq
         go_wp2
         go_round
         case rel =>
          refine ⟨k + 1, by omega, by go_num, fun j hj h => ?_⟩
          by_cases hjk : j = k
          ·subst hjk; exact HE.out
          ·exact HK.out j hj (by omega)
         case measure => simp [intOf]; omega
       ·have HS := Hi_ (signs_none (c := s[i].toNat) (fun j hj => HK.out j hj (by omega)))
        go_wp2
        go_ret2
        exact ⟨by unfold TokRes; rw [HT2.out, if_neg (by simp [HS.out])]; rfl, rfl⟩
    ·have d1 : ((s[i].toNat : Int) == 61) = false := by simp; omega
     have H61 := Hi_ h61; clear h61
     have hlit : (⟨#[123, 125, 40, 41, 91, 93, 59, 44, 61, 43, 45, 42, 47, 37, 60]⟩ : ByteArray) = signs := rfl
     go_enter Tryz.func92, Tryz.ntmps92
     go_wp2_with (first | (go_at_call 145; refine (isLetter_any _ hb2 _).mono ?_; rintro e w' ⟨rfl, rfl⟩; simp only [hL]) | (go_at_call 95; refine (isDigit_any _ hb2 _).mono ?_; rintro e w' ⟨rfl, rfl⟩; simp only [hD]))
     clear hL hD
     go_loop [9] (fun n => ∃ k : Nat, k ≤ 15 ∧ n = .int .i64 k ∧ Hid (∀ j (hj : j < signs.size), j < k → signs[j].toNat ≠ s[i].toNat)) (fun n => 15 - (intOf n).toNat)
     case atStart => exact ⟨0, by omega, rfl, fun j _ h => absurd h (by omega)⟩
     case round =>
      obtain ⟨k, hk, rfl, HK⟩ := hrel
      by_cases hlt : k < signs.size
      ·by_cases heq : signs[k].toNat = s[i].toNat
       ·have d3 : ((signs[k].toNat : Int) == (s[i].toNat : Int)) = true := by simp; omega
        have HS := Hi_ (signs_some hlt)
        have HE := Hi_ heq; clear heq
        go_wp2
        go_ret2
        exact ⟨by unfold TokRes; rw [HT2.out, ← HE.out, if_pos HS.out]; rfl, rfl⟩
       ·have d3 : ((signs[k].toNat : Int) == (s[i].toNat : Int)) = false := by simp; omega
        have HE := Hi_ heq; clear heq
        go_wp2
        go_round
        case rel =>
         refine ⟨k + 1, by omega, by go_num, fun j hj h => ?_⟩
         by_cases hjk : j = k
         ·subst hjk; exact HE.out
         ·exact HK.out j hj (by omega)
        case measure => simp [intOf]; omega
      ·have HS := Hi_ (signs_none (c := s[i].toNat) (fun j hj => HK.out j hj (by omega)))
       go_wp2
       go_ret2
       exact ⟨by unfold TokRes; rw [HT2.out, if_neg (by simp [HS.out])]; rfl, rfl⟩
theorem toList_loop (a : ByteArray) : ∀ (n i : Nat) (r : List UInt8), a.size - i = n → ByteArray.toList.loop a i r = r.reverse ++ a.data.toList.drop i
 | n, i, r, hn => by
  rw [ByteArray.toList.loop]
  by_cases h : i < a.size
  ·rw [if_pos h, toList_loop a (n - 1) (i + 1) _ (by omega)]
   have h2 : i < a.data.toList.length := by simpa using h
   rw [List.drop_eq_getElem_cons h2, List.reverse_cons, List.append_assoc]
   congr 1
   show a.get! i :: _ = _
   have : a.get! i = a.data.toList[i] := by
    show a.data[i]! = _
    rw [getElem!_pos a.data i (by simpa using h)]
    simp
   rw [this]
   rfl
  ·rw [if_neg h, List.drop_of_length_le (by simpa using h), List.append_nil]
termination_by n => n
theorem toList_data (a : ByteArray) : a.toList = a.data.toList := by
 rw [ByteArray.toList, toList_loop a _ 0 [] rfl]; simp
theorem str_eq (a b : ByteArray) : (a.toList == b.toList) = decide (a = b) := by
 rw [toList_data, toList_data, Bool.eq_iff_iff]
 simp
 constructor
 ·intro h; cases a; cases b; simp at h; rw [h]
 ·intro h; rw [h]
theorem str_true {a b : ByteArray} (h : a = b) : (a.toList == b.toList) = true := by rw [str_eq]; exact decide_eq_true h
theorem str_false {a b : ByteArray} (h : a ≠ b) : (a.toList == b.toList) = false := by rw [str_eq]; exact decide_eq_false h
def Tok.cells (t : Tok) : List Value := [.int .i64 t.kind, .int .i64 t.at_, .string t.text]
def tokR : Rep Tok where
 size := 3
 R _ cs e := cs = e.cells
 len h := by subst h; rfl
 keep _ h := h
def TokAtC (w : World) (b o : Nat) (e : Tok) : Prop := w.cell? ⟨b, o, none⟩ = some (.int .i64 e.kind) ∧ w.cell? ⟨b, o + 1, none⟩ = some (.int .i64 e.at_) ∧ w.cell? ⟨b, o + 2, none⟩ = some (.string e.text)
theorem tokR.cells {w : World} {b o : Nat} {xs : List Tok} (h : ∀ k x, xs[k]? = some x → tokR.At w b (o + k * tokR.size) x) {k : Nat} {x : Tok} (hk : xs[k]? = some x) : TokAtC w b (o + k * 3) x := by
 obtain ⟨cs, hc, hcs⟩ := h k x hk
 have e : cs = x.cells := hc
 subst e
 exact ⟨hcs 0 _ rfl, hcs 1 _ rfl, hcs 2 _ rfl⟩
theorem flat_cut {α : Type} {f : α → List Value} {n : Nat} (hf : ∀ x, (f x).length = n) : ∀ (xs : List α) (k : Nat) (x : α), xs[k]? = some x → ((xs.flatMap f).drop (k * n)).take n = f x
 | [], k, x, h => by simp at h
 | y :: ys, 0, x, h => by
  obtain rfl : y = x := by simpa using h
  rw [List.flatMap_cons, Nat.zero_mul, List.drop_zero, List.take_append_of_le_length (by rw [hf]; exact Nat.le_refl _), List.take_of_length_le (by rw [hf]; exact Nat.le_refl _)]
 | y :: ys, k + 1, x, h => by
  rw [List.flatMap_cons, List.drop_append, List.drop_of_length_le (by rw [hf, Nat.add_mul]; omega), List.nil_append, hf, show (k + 1) * n - n = k * n by rw [Nat.add_mul]; omega]
  exact flat_cut hf ys k x (by simpa using h)
theorem Sl.own_tok {w : World} {base : Nat} {e : TypeId} {v : Value} {n : Nat} {xs : List Tok} (h : w.ownsRow base e 3 v n (xs.flatMap Tok.cells)) (hn : n = xs.length) : Sl tokR w v xs :=
 Sl.own (r := tokR) h hn fun k x hx => flat_cut (n := 3) (fun _ => rfl) xs k x hx
def sp : ByteArray := ⟨#[32]⟩
def emp : ByteArray := ⟨#[]⟩
mutual
/-- how many parts; more than m is enough -/
def TE.size : TE → Int → Int
 | .mk _ _ _ _ args, m => sizeE args 1 m
def sizeE : List TE → Int → Int → Int
 | [], a, _ => a
 | x :: xs, a, m => if m < a then a else sizeE xs (a + x.size (m - a)) m
end
theorem sizeE_le {xs : List TE} (h : ∀ x ∈ xs, ∀ m, 0 ≤ m → 1 ≤ x.size m ∧ x.size m ≤ m + 1) : ∀ a m, 1 ≤ a → a ≤ m + 1 → 1 ≤ sizeE xs a m ∧ sizeE xs a m ≤ m + 1 := by
 induction xs with
 | nil => intro a m h1 h2; rw [sizeE]; exact ⟨h1, h2⟩
 | cons x xs ih =>
  intro a m h1 h2
  rw [sizeE]
  split
  ·exact ⟨h1, h2⟩
  ·obtain ⟨h3, h4⟩ := h x (by simp) (m - a) (by omega)
   exact ih (fun y hy => h y (by simp [hy])) _ _ (by omega) (by omega)
theorem TE.size_le : ∀ q : TE, ∀ m, 0 ≤ m → 1 ≤ q.size m ∧ q.size m ≤ m + 1 :=
 TE.ind fun k a n s args ih m hm => by rw [TE.size]; exact sizeE_le ih 1 m (by omega) (by omega)
theorem sizeE_drop {args : List TE} {k : Nat} {x : TE} (hx : args[k]? = some x) (a m : Int) : sizeE (args.drop k) a m = if m < a then a else sizeE (args.drop (k + 1)) (a + x.size (m - a)) m := by
 obtain ⟨hl, rfl⟩ := List.getElem?_eq_some_iff.1 hx
 rw [List.drop_eq_getElem_cons hl, sizeE]
theorem sizeE_end {args : List TE} {k : Nat} (h : args.length ≤ k) (a m : Int) : sizeE (args.drop k) a m = a := by
 rw [List.drop_eq_nil_of_le h, sizeE]
/-- too great? -/
def TE.great (e : TE) : Bool := decide (15 < e.size 15)
mutual
/-- is nothing in a command too great, nor too deep? -/
def TC.fine : TC → Int → Bool
 | .mk _ _ _ _ i e args thn els, d => !i.great && !e.great && decide (args.length ≤ 3) && !args.any TE.great && fineL thn (d + 1) && fineL els (d + 1)
def fineL : List TC → Int → Bool
 | [], _ => true
 | x :: xs, d => decide (d ≤ 5) && x.fine d && fineL xs d
end
mutual
/-- how many commands -/
def TC.cnt : TC → Nat
 | .mk _ _ _ _ _ _ _ thn els => 1 + cntL thn + cntL els
def cntL : List TC → Nat
 | [] => 0
 | x :: xs => x.cnt + cntL xs
end
theorem TC.fine_eq (x : TC) (d : Int) : x.fine d = (!x.index.great && !x.expr.great && decide (x.args.length ≤ 3) && !x.args.any TE.great && fineL x.thn (d + 1) && fineL x.els (d + 1)) := by
 cases x
 rw [TC.fine]
 rfl
theorem TC.cnt_eq (x : TC) : x.cnt = 1 + cntL x.thn + cntL x.els := by
 cases x
 rw [TC.cnt]
 rfl
theorem fineL_drop {l : List TC} {k : Nat} {x : TC} (hx : l[k]? = some x) (d : Int) : fineL (l.drop k) d = (decide (d ≤ 5) && x.fine d && fineL (l.drop (k + 1)) d) := by
 obtain ⟨hl, rfl⟩ := List.getElem?_eq_some_iff.1 hx
 rw [List.drop_eq_getElem_cons hl, fineL]
theorem cntL_drop {l : List TC} {k : Nat} {x : TC} (hx : l[k]? = some x) : cntL (l.drop k) = x.cnt + cntL (l.drop (k + 1)) := by
 obtain ⟨hl, rfl⟩ := List.getElem?_eq_some_iff.1 hx
 rw [List.drop_eq_getElem_cons hl, cntL]
theorem fineL_end {l : List TC} {k : Nat} (h : l.length ≤ k) (d : Int) : fineL (l.drop k) d = true := by rw [List.drop_eq_nil_of_le h, fineL]
theorem cntL_end {l : List TC} {k : Nat} (h : l.length ≤ k) : cntL (l.drop k) = 0 := by rw [List.drop_eq_nil_of_le h, cntL]
def TF.big (f : TF) : Bool := decide (3 < f.params.length) || decide (6 < f.vars.length) || f.result.great
/-- is there too much of something? -/
def manyL (l : List TF) : Bool := l.any TF.big || !l.all (fun f => fineL f.cmds 1) || decide (40 < (l.map fun f => cntL f.cmds).sum)
def many (l : List TF) : Bool := decide (6 < l.length) || manyL l
/-- words that are no names -/
def wordsT : List ByteArray := [⟨#[102, 117, 110, 99]⟩, ⟨#[109, 97, 105, 110]⟩, ⟨#[118, 97, 114]⟩, ⟨#[97, 114, 114]⟩, ⟨#[114, 101, 97, 100]⟩, ⟨#[112, 114, 105, 110, 116]⟩, ⟨#[105, 102]⟩, ⟨#[101, 108, 115, 101]⟩, ⟨#[119, 104, 105, 108, 101]⟩, ⟨#[114, 101, 116, 117, 114, 110]⟩]
def isWord (s : ByteArray) : Bool := wordsT.any fun x => decide (x = s)
def isName (s : ByteArray) : Bool := isTok 1 s && !isWord s
/-- how many Args -/
def arityE (k : Int) : Int := if k < 1 ∨ 10 < k then -1 else if k ≤ 2 then 0 else if k = 3 then 1 else 2
def TE.none_ (e : TE) : Bool := decide (e.kind = 0) && decide (e.n = 0) && decide (e.name = emp) && decide (e.args.length = 0)
mutual
/-- is an expression right? -/
def TE.ok : TE → Bool
 | .mk k _ n s args => decide (arityE k = (args.length : Int)) && (if k = 2 ∨ k = 3 then isName s else decide (s = emp)) && (if k = 1 then decide (-9999999 ≤ n ∧ n ≤ 9999999) else decide (n = 0)) && okEs args
def okEs : List TE → Bool
 | [] => true
 | x :: xs => x.ok && okEs xs
end
theorem okEs_all (l : List TE) : okEs l = l.all TE.ok := by
 induction l with
 | nil => rfl
 | cons x xs ih => rw [okEs, List.all_cons, ih]
theorem TE.ok_eq (e : TE) : e.ok = (decide (arityE e.kind = (e.args.length : Int)) && (if e.kind = 2 ∨ e.kind = 3 then isName e.name else decide (e.name = emp)) && (if e.kind = 1 then decide (-9999999 ≤ e.n ∧ e.n ≤ 9999999) else decide (e.n = 0)) && e.args.all TE.ok) := by
 cases e
 rw [TE.ok, okEs_all]
 rfl
mutual
/-- is a command right? -/
def TC.ok : TC → Bool
 | .mk k _ s t i e args thn els => decide (1 ≤ k ∧ k ≤ 7) && (if k ≤ 4 then isName s else decide (s = emp)) && (if k = 3 then isName t else decide (t = emp)) && (if k = 2 then i.ok else i.none_) && (if k = 3 ∨ k = 4 then e.none_ else e.ok) &&
  (if k = 3 then args.all TE.ok else decide (args.length = 0)) && (if 6 ≤ k then okCs thn else decide (thn.length = 0)) && (if k = 6 then okCs els else decide (els.length = 0))
def okCs : List TC → Bool
 | [] => true
 | x :: xs => x.ok && okCs xs
end
theorem okCs_all (l : List TC) : okCs l = l.all TC.ok := by
 induction l with
 | nil => rfl
 | cons x xs ih => rw [okCs, List.all_cons, ih]
theorem TC.ok_eq (x : TC) : x.ok = (decide (1 ≤ x.kind ∧ x.kind ≤ 7) && (if x.kind ≤ 4 then isName x.name else decide (x.name = emp)) && (if x.kind = 3 then isName x.other else decide (x.other = emp)) && (if x.kind = 2 then x.index.ok else x.index.none_) && (if x.kind = 3 ∨ x.kind = 4 then x.expr.none_ else x.expr.ok) &&
  (if x.kind = 3 then x.args.all TE.ok else decide (x.args.length = 0)) && (if 6 ≤ x.kind then x.thn.all TC.ok else decide (x.thn.length = 0)) && (if x.kind = 6 then x.els.all TC.ok else decide (x.els.length = 0))) := by
 cases x
 rw [TC.ok, okCs_all, okCs_all]
 rfl
def TV.ok (v : TV) : Bool := isName v.name && decide (0 ≤ v.size ∧ v.size ≤ 9999999)
def TF.ok (f : TF) (main : Bool) : Bool :=
 (if main then decide (f.name = emp) && f.result.none_ && decide (f.params.length = 0) else isName f.name && f.result.ok) && f.params.all isName && f.vars.all TV.ok && f.cmds.all TC.ok
/-- are all functions right, the last of which is main? -/
def okFs : List TF → Bool
 | [] => true
 | [f] => f.ok true
 | f :: g :: l => f.ok false && okFs (g :: l)
/-- Check -/
def errT (l : List TF) : Int := if many l then 2 else if l.length = 0 then 1 else if okFs l then 0 else 1
end Go.Proofs.YtmfjlcpjemccmaaGreatDoor
