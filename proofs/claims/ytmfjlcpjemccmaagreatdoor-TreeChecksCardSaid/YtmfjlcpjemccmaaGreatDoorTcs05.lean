/- Letters, digits, the document's token at a place. Strings as the walk compares them. No conditions. Each lemma states its own conditions. -/
import Derived.Test.YtmfjlcpjemccmaaGreatDoorTcs04
import Derived.Test.YtmfjlcpjemccmaaGreatDoorTcs01
namespace Go.Proofs.YtmfjlcpjemccmaaGreatDoor
open Go.RowKit
theorem letter_any (b : Nat) (w : World) : Calls Tryz.prog 109 #[.int .u8 b] w fun r w' => r = .returned (.bool (isL b)) ∧ w = w' := by
 go_enter Tryz.func109, Tryz.ntmps109
 go_wp2
 all_goals go_ret
 all_goals refine ⟨ret_bool ?_, rfl⟩
 all_goals unfold isL
 all_goals rw [Bool.eq_iff_iff]
 all_goals simp
 all_goals omega
theorem digit_any (b : Nat) (w : World) : Calls Tryz.prog 112 #[.int .u8 b] w fun r w' => r = .returned (.bool (isD b)) ∧ w = w' := by
 go_enter Tryz.func112, Tryz.ntmps112
 go_wp2
 all_goals go_ret
 all_goals refine ⟨ret_bool ?_, rfl⟩
 all_goals unfold isD
 all_goals rw [Bool.eq_iff_iff]
 all_goals simp
 all_goals omega
theorem isLetter_any (b : Nat) (hb : b < 256) (w : World) : Calls Tryz.prog 145 #[.int .u8 b] w fun r w' => r = .returned (.bool (isL b)) ∧ w = w' := by
 go_enter Tryz.func145, Tryz.ntmps145
 go_wp2_with (go_at_call 40; refine (between_any _ _ _ _).mono ?_; rintro e w' ⟨rfl, rfl⟩)
 go_ret
 exact ⟨ret_bool (by rw [Bool.eq_iff_iff]; simp [isL]; omega), rfl⟩
theorem isDigit_any (b : Nat) (hb : b < 256) (w : World) : Calls Tryz.prog 95 #[.int .u8 b] w fun r w' => r = .returned (.bool (isD b)) ∧ w = w' := by
 go_enter Tryz.func95, Tryz.ntmps95
 go_wp2_with (go_at_call 40; refine (between_any _ _ _ _).mono ?_; rintro e w' ⟨rfl, rfl⟩)
 go_ret
 exact ⟨ret_bool (by rw [Bool.eq_iff_iff]; simp [isD]; omega), rfl⟩
theorem ld_any (b : Nat) (w : World) : Calls Tryz.prog 111 #[.int .u8 b] w fun r w' => r = .returned (.bool (isLD b)) ∧ w = w' := by
 unfold isLD
 cases h : isL b with
 | true =>
  go_enter Tryz.func111, Tryz.ntmps111
  go_wp2_with (go_at_call 109; refine (letter_any _ _).mono ?_; rintro e w' ⟨rfl, rfl⟩; simp only [h])
  go_ret
  exact ⟨rfl, rfl⟩
 | false =>
  go_enter Tryz.func111, Tryz.ntmps111
  go_wp2_with (first | (go_at_call 109; refine (letter_any _ _).mono ?_; rintro e w' ⟨rfl, rfl⟩; simp only [h]) | (go_at_call 112; refine (digit_any _ _).mono ?_; rintro e w' ⟨rfl, rfl⟩))
  go_ret
  exact ⟨rfl, rfl⟩
theorem runTo_step {p : Nat → Bool} {s : ByteArray} {i j : Nat} {b : Nat} (h : runTo p s i = runTo p s j) (hj : j < s.size) (hb : s[j].toNat = b) (hp : p b = true) : runTo p s i = runTo p s (j + 1) := by
 rw [h, runTo_go hj (by rw [hb]; exact hp)]
theorem runTo_done {p : Nat → Bool} {s : ByteArray} {i j : Nat} {b : Nat} (h : runTo p s i = runTo p s j) (hj : j < s.size) (hb : s[j].toNat = b) (hp : p b = false) : runTo p s i = j := by
 rw [h, runTo_stop hj (by rw [hb]; exact hp)]
def signs : ByteArray := ⟨#[123, 125, 40, 41, 91, 93, 59, 44, 61, 43, 45, 42, 47, 37, 60]⟩
theorem signs_size : signs.size = 15 := rfl
theorem signs_some {k : Nat} (h : k < signs.size) : isS signs[k].toNat = true := by
 have h' : k < 15 := h
 match k, h' with
 | 0, _ | 1, _ | 2, _ | 3, _ | 4, _ | 5, _ | 6, _ | 7, _ | 8, _ | 9, _ | 10, _ | 11, _ | 12, _ | 13, _ | 14, _ => rfl
theorem signs_none {c : Nat} (h : ∀ k (hk : k < signs.size), signs[k].toNat ≠ c) : isS c = false := by
 cases hc : isS c with
 | false => rfl
 | true =>
  have hm : c ∈ signL := by simpa [isS] using hc
  simp only [signL, List.mem_cons, List.not_mem_nil, or_false] at hm
  rcases hm with rfl | rfl | rfl | rfl | rfl | rfl | rfl | rfl | rfl | rfl | rfl | rfl | rfl | rfl | rfl
  ·exact absurd rfl (h 0 (by decide))
  ·exact absurd rfl (h 1 (by decide))
  ·exact absurd rfl (h 2 (by decide))
  ·exact absurd rfl (h 3 (by decide))
  ·exact absurd rfl (h 4 (by decide))
  ·exact absurd rfl (h 5 (by decide))
  ·exact absurd rfl (h 6 (by decide))
  ·exact absurd rfl (h 7 (by decide))
  ·exact absurd rfl (h 8 (by decide))
  ·exact absurd rfl (h 9 (by decide))
  ·exact absurd rfl (h 10 (by decide))
  ·exact absurd rfl (h 11 (by decide))
  ·exact absurd rfl (h 12 (by decide))
  ·exact absurd rfl (h 13 (by decide))
  ·exact absurd rfl (h 14 (by decide))
def TokRes (s : ByteArray) (i : Nat) (r : Ending) : Prop := r = .returned (.tuple #[.int .i64 (tokAt s i).1, .int .i64 (tokAt s i).2])
set_option maxHeartbeats 1000000 in
theorem tokenAt_ref (s : ByteArray) (i : Nat) (w : World) (hs : ok64 s.size) (hi : i < s.size) :
  Calls Tryz.prog 92 #[.string s, .int .i64 i] w fun r w' => TokRes s i r ∧ w = w' := by
 unfold ok64 at hs
 have hb2 : s[i].toNat < 256 := s[i].toNat_lt
 have HT : Hid (tokAt s i = if isL s[i].toNat then (1, runTo isLD s (i + 1) - i)
  else if isD s[i].toNat then (2, runTo isD s (i + 1) - i)
  else if s[i].toNat = 61 ∧ ∃ h : i + 1 < s.size, s[i + 1].toNat = 61 then (3, 2)
  else if isS s[i].toNat then (3, 1)
  else (0, 0)) := Hi_ (by unfold tokAt; rw [dif_pos hi])
 cases hL : isL s[i].toNat with
 | true =>
  have HT' : Hid (tokAt s i = (1, runTo isLD s (i + 1) - i)) := Hi_ (by rw [HT.out, if_pos hL])
  clear HT
  go_enter Tryz.func92, Tryz.ntmps92
  go_wp2_with (go_at_call 145; refine (isLetter_any _ hb2 _).mono ?_; rintro e w' ⟨rfl, rfl⟩; simp only [hL])
  clear hL
  go_loop [7] (fun n => ∃ k : Nat, 1 ≤ k ∧ i + k ≤ s.size ∧ n = .int .i64 k ∧ Hid (runTo isLD s (i + 1) = runTo isLD s (i + k))) (fun n => s.size - (intOf n).toNat)
  case atStart => exact ⟨1, by omega, by omega, rfl, rfl⟩
  case round =>
   obtain ⟨k, hk1, hk, rfl, HR⟩ := hrel
   by_cases hlt : i + k < s.size
   ·obtain ⟨b, hb⟩ : ∃ b, s[i + k].toNat = b := ⟨_, rfl⟩
    have hb3 : b < 256 := by rw [← hb]; exact s[i + k].toNat_lt
    cases h1 : isL b with
    | true =>
     have HR2 := Hi_ (runTo_step (p := isLD) HR.out hlt hb (by unfold isLD; rw [h1]; rfl))
     go_wp2_with (go_at_call 145; refine (isLetter_any _ hb3 _).mono ?_; rintro e w' ⟨rfl, rfl⟩; simp only [h1])
     go_round
     case rel => exact ⟨k + 1, by omega, by omega, by go_num, HR2⟩
     case measure => simp [intOf]; omega
    | false =>
     cases h2 : isD b with
     | true =>
      have HR2 := Hi_ (runTo_step (p := isLD) HR.out hlt hb (by unfold isLD; rw [h1, h2]; rfl))
      go_wp2_with (first | (go_at_call 145; refine (isLetter_any _ hb3 _).mono ?_; rintro e w' ⟨rfl, rfl⟩; simp only [h1]) | (go_at_call 95; refine (isDigit_any _ hb3 _).mono ?_; rintro e w' ⟨rfl, rfl⟩; simp only [h2]))
      go_round
      case rel => exact ⟨k + 1, by omega, by omega, by go_num, HR2⟩
      case measure => simp [intOf]; omega
     | false =>
      have HR2 := Hi_ (runTo_done (p := isLD) HR.out hlt hb (by unfold isLD; rw [h1, h2]; rfl))
      go_wp2_with (first | (go_at_call 145; refine (isLetter_any _ hb3 _).mono ?_; rintro e w' ⟨rfl, rfl⟩; simp only [h1]) | (go_at_call 95; refine (isDigit_any _ hb3 _).mono ?_; rintro e w' ⟨rfl, rfl⟩; simp only [h2]))
      go_ret2
      refine ⟨?_, rfl⟩
      unfold TokRes
      rw [HT'.out, HR2.out]
      simp only [Nat.add_sub_cancel_left]
      rfl
   ·have HR2 : Hid (runTo isLD s (i + 1) = i + k) := Hi_ (by rw [HR.out, runTo_end hlt])
    go_wp2
    go_ret2
    refine ⟨?_, rfl⟩
    unfold TokRes
    rw [HT'.out, HR2.out]
    simp only [Nat.add_sub_cancel_left]
    rfl
 | false =>
  cases hD : isD s[i].toNat with
  | true =>
   have HT' : Hid (tokAt s i = (2, runTo isD s (i + 1) - i)) := Hi_ (by rw [HT.out, if_neg (by simp [hL]), if_pos hD])
   clear HT
   go_enter Tryz.func92, Tryz.ntmps92
   go_wp2_with (first | (go_at_call 145; refine (isLetter_any _ hb2 _).mono ?_; rintro e w' ⟨rfl, rfl⟩; simp only [hL]) | (go_at_call 95; refine (isDigit_any _ hb2 _).mono ?_; rintro e w' ⟨rfl, rfl⟩; simp only [hD]))
   clear hL hD
   go_loop [7] (fun n => ∃ k : Nat, 1 ≤ k ∧ i + k ≤ s.size ∧ n = .int .i64 k ∧ Hid (runTo isD s (i + 1) = runTo isD s (i + k))) (fun n => s.size - (intOf n).toNat)
   case atStart => exact ⟨1, by omega, by omega, rfl, rfl⟩
   case round =>
    obtain ⟨k, hk1, hk, rfl, HR⟩ := hrel
    by_cases hlt : i + k < s.size
    ·obtain ⟨b, hb⟩ : ∃ b, s[i + k].toNat = b := ⟨_, rfl⟩
     have hb3 : b < 256 := by rw [← hb]; exact s[i + k].toNat_lt
     cases h2 : isD b with
     | true =>
      have HR2 := Hi_ (runTo_step (p := isD) HR.out hlt hb h2)
      go_wp2_with (go_at_call 95; refine (isDigit_any _ hb3 _).mono ?_; rintro e w' ⟨rfl, rfl⟩; simp only [h2])
      go_round
      case rel => exact ⟨k + 1, by omega, by omega, by go_num, HR2⟩
      case measure => simp [intOf]; omega
     | false =>
      have HR2 := Hi_ (runTo_done (p := isD) HR.out hlt hb h2)
      go_wp2_with (go_at_call 95; refine (isDigit_any _ hb3 _).mono ?_; rintro e w' ⟨rfl, rfl⟩; simp only [h2])
      go_ret2
      refine ⟨?_, rfl⟩
      unfold TokRes
      rw [HT'.out, HR2.out]
      simp only [Nat.add_sub_cancel_left]
      rfl
    ·have HR2 : Hid (runTo isD s (i + 1) = i + k) := Hi_ (by rw [HR.out, runTo_end hlt])
     go_wp2
     go_ret2
     refine ⟨?_, rfl⟩
     unfold TokRes
     rw [HT'.out, HR2.out]
     simp only [Nat.add_sub_cancel_left]
     rfl
  | false =>
   have HT' : Hid (tokAt s i = if s[i].toNat = 61 ∧ ∃ h : i + 1 < s.size, s[i + 1].toNat = 61 then (3, 2)
    else if isS s[i].toNat then (3, 1) else (0, 0)) := Hi_ (by rw [HT.out, if_neg (by simp [hL]), if_neg (by simp [hD])])
   clear HT
   by_cases h2 : s[i].toNat = 61 ∧ ∃ h : i + 1 < s.size, s[i + 1].toNat = 61
   ·have HT2 : Hid (tokAt s i = (3, 2)) := Hi_ (by rw [HT'.out, if_pos h2])
    obtain ⟨h3, h4, h5⟩ := h2
    have d1 : ((s[i].toNat : Int) == 61) = true := by simp; omega
    have d2 : ((s[i + 1].toNat : Int) == 61) = true := by simp; omega
    clear h3 h5
    go_enter Tryz.func92, Tryz.ntmps92
    go_wp2_with (first | (go_at_call 145; refine (isLetter_any _ hb2 _).mono ?_; rintro e w' ⟨rfl, rfl⟩; simp only [hL]) | (go_at_call 95; refine (isDigit_any _ hb2 _).mono ?_; rintro e w' ⟨rfl, rfl⟩; simp only [hD]))
    go_ret2
    exact ⟨by unfold TokRes; rw [HT2.out]; rfl, rfl⟩
   ·have HT2 : Hid (tokAt s i = if isS s[i].toNat then (3, 1) else (0, 0)) := Hi_ (by rw [HT'.out, if_neg h2])
    clear HT'
    have HG : Hid (s[i].toNat = 61 → ∀ h : i + 1 < s.size, s[i + 1].toNat ≠ 61) := Hi_ (fun h3 h4 h5 => h2 ⟨h3, h4, h5⟩)
    clear h2
    have hsz := signs_size
    by_cases h61 : s[i].toNat = 61
    ·have d1 : ((s[i].toNat : Int) == 61) = true := by simp; omega
     by_cases h1 : i + 1 < s.size
     ·have d2 : ((s[i + 1].toNat : Int) == 61) = false := by have := HG.out h61 h1; simp; omega
      have H61 := Hi_ h61; clear h61
      have hlit : (⟨#[123, 125, 40, 41, 91, 93, 59, 44, 61, 43, 45, 42, 47, 37, 60]⟩ : ByteArray) = signs := rfl
      go_enter Tryz.func92, Tryz.ntmps92
      go_wp2_with (first | (go_at_call 145; refine (isLetter_any _ hb2 _).mono ?_; rintro e w' ⟨rfl, rfl⟩; simp only [hL]) | (go_at_call 95; refine (isDigit_any _ hb2 _).mono ?_; rintro e w' ⟨rfl, rfl⟩; simp only [hD]))
      clear hL hD
      go_loop [9] (fun n => ∃ k : Nat, k ≤ 15 ∧ n = .int .i64 k ∧ Hid (∀ j (hj : j < signs.size), j < k → signs[j].toNat ≠ s[i].toNat)) (fun n => 15 - (intOf n).toNat)
      case atStart => exact ⟨0, by omega, rfl, fun j _ h => absurd h (by omega)⟩
      case round =>
       obtain ⟨k, hk, rfl, HK⟩ := hrel
       by_cases hlt : k < signs.size
       ·by_cases heq : signs[k].toNat = s[i].toNat
        ·have d3 : ((signs[k].toNat : Int) == (s[i].toNat : Int)) = true := by simp; omega
         have HS := Hi_ (signs_some hlt)
         have HE := Hi_ heq; clear heq
         go_wp2
         go_ret2
         exact ⟨by unfold TokRes; rw [HT2.out, ← HE.out, if_pos HS.out]; rfl, rfl⟩
        ·have d3 : ((signs[k].toNat : Int) == (s[i].toNat : Int)) = false := by simp; omega
         have HE := Hi_ heq; clear heq
         go_wp2
         go_round
         case rel =>
          refine ⟨k + 1, by omega, by go_num, fun j hj h => ?_⟩
          by_cases hjk : j = k
          ·subst hjk; exact HE.out
          ·exact HK.out j hj (by omega)
         case measure => simp [intOf]; omega
       ·have HS := Hi_ (signs_none (c := s[i].toNat) (fun j hj => HK.out j hj (by omega)))
        go_wp2
        go_ret2
        exact ⟨by unfold TokRes; rw [HT2.out, if_neg (by simp [HS.out])]; rfl, rfl⟩
     ·have H61 := Hi_ h61; clear h61
      have hlit : (⟨#[123, 125, 40, 41, 91, 93, 59, 44, 61, 43, 45, 42, 47, 37, 60]⟩ : ByteArray) = signs := rfl
      go_enter Tryz.func92, Tryz.ntmps92
      go_wp2_with (first | (go_at_call 145; refine (isLetter_any _ hb2 _).mono ?_; rintro e w' ⟨rfl, rfl⟩; simp only [hL]) | (go_at_call 95; refine (isDigit_any _ hb2 _).mono ?_; rintro e w' ⟨rfl, rfl⟩; simp only [hD]))
      clear hL hD
      go_loop [9] (fun n => ∃ k : Nat, k ≤ 15 ∧ n = .int .i64 k ∧ Hid (∀ j (hj : j < signs.size), j < k → signs[j].toNat ≠ s[i].toNat)) (fun n => 15 - (intOf n).toNat)
      case atStart => exact ⟨0, by omega, rfl, fun j _ h => absurd h (by omega)⟩
      case round =>
       obtain ⟨k, hk, rfl, HK⟩ := hrel
       by_cases hlt : k < signs.size
       ·by_cases heq : signs[k].toNat = s[i].toNat
        ·have d3 : ((signs[k].toNat : Int) == (s[i].toNat : Int)) = true := by simp; omega
         have HS := Hi_ (signs_some hlt)
         have HE := Hi_ heq; clear heq
         go_wp2
         go_ret2
         exact ⟨by unfold TokRes; rw [HT2.out, ← HE.out, if_pos HS.out]; rfl, rfl⟩
        ·have d3 : ((signs[k].toNat : Int) == (s[i].toNat : Int)) = false := by simp; omega
         have HE := Hi_ heq; clear heq
         go_wp2
         go_round
         case rel =>
          refine ⟨k + 1, by omega, by go_num, fun j hj h => ?_⟩
          by_cases hjk : j = k
          ·subst hjk; exact HE.out
          ·exact HK.out j hj (by omega)
         case measure => simp [intOf]; omega
       ·have HS := Hi_ (signs_none (c := s[i].toNat) (fun j hj => HK.out j hj (by omega)))
        go_wp2
        go_ret2
        exact ⟨by unfold TokRes; rw [HT2.out, if_neg (by simp [HS.out])]; rfl, rfl⟩
    ·have d1 : ((s[i].toNat : Int) == 61) = false := by simp; omega
     have H61 := Hi_ h61; clear h61
     have hlit : (⟨#[123, 125, 40, 41, 91, 93, 59, 44, 61, 43, 45, 42, 47, 37, 60]⟩ : ByteArray) = signs := rfl
     go_enter Tryz.func92, Tryz.ntmps92
     go_wp2_with (first | (go_at_call 145; refine (isLetter_any _ hb2 _).mono ?_; rintro e w' ⟨rfl, rfl⟩; simp only [hL]) | (go_at_call 95; refine (isDigit_any _ hb2 _).mono ?_; rintro e w' ⟨rfl, rfl⟩; simp only [hD]))
     clear hL hD
     go_loop [9] (fun n => ∃ k : Nat, k ≤ 15 ∧ n = .int .i64 k ∧ Hid (∀ j (hj : j < signs.size), j < k → signs[j].toNat ≠ s[i].toNat)) (fun n => 15 - (intOf n).toNat)
     case atStart => exact ⟨0, by omega, rfl, fun j _ h => absurd h (by omega)⟩
     case round =>
      obtain ⟨k, hk, rfl, HK⟩ := hrel
      by_cases hlt : k < signs.size
      ·by_cases heq : signs[k].toNat = s[i].toNat
       ·have d3 : ((signs[k].toNat : Int) == (s[i].toNat : Int)) = true := by simp; omega
        have HS := Hi_ (signs_some hlt)
        have HE := Hi_ heq; clear heq
        go_wp2
        go_ret2
        exact ⟨by unfold TokRes; rw [HT2.out, ← HE.out, if_pos HS.out]; rfl, rfl⟩
       ·have d3 : ((signs[k].toNat : Int) == (s[i].toNat : Int)) = false := by simp; omega
        have HE := Hi_ heq; clear heq
        go_wp2
        go_round
        case rel =>
         refine ⟨k + 1, by omega, by go_num, fun j hj h => ?_⟩
         by_cases hjk : j = k
         ·subst hjk; exact HE.out
         ·exact HK.out j hj (by omega)
        case measure => simp [intOf]; omega
      ·have HS := Hi_ (signs_none (c := s[i].toNat) (fun j hj => HK.out j hj (by omega)))
       go_wp2
       go_ret2
       exact ⟨by unfold TokRes; rw [HT2.out, if_neg (by simp [HS.out])]; rfl, rfl⟩
theorem toList_loop (a : ByteArray) : ∀ (n i : Nat) (r : List UInt8), a.size - i = n → ByteArray.toList.loop a i r = r.reverse ++ a.data.toList.drop i
 | n, i, r, hn => by
  rw [ByteArray.toList.loop]
  by_cases h : i < a.size
  ·rw [if_pos h, toList_loop a (n - 1) (i + 1) _ (by omega)]
   have h2 : i < a.data.toList.length := by simpa using h
   rw [List.drop_eq_getElem_cons h2, List.reverse_cons, List.append_assoc]
   congr 1
   show a.get! i :: _ = _
   have : a.get! i = a.data.toList[i] := by
    show a.data[i]! = _
    rw [getElem!_pos a.data i (by simpa using h)]
    simp
   rw [this]
   rfl
  ·rw [if_neg h, List.drop_of_length_le (by simpa using h), List.append_nil]
termination_by n => n
theorem toList_data (a : ByteArray) : a.toList = a.data.toList := by
 rw [ByteArray.toList, toList_loop a _ 0 [] rfl]; simp
theorem str_eq (a b : ByteArray) : (a.toList == b.toList) = decide (a = b) := by
 rw [toList_data, toList_data, Bool.eq_iff_iff]
 simp
 constructor
 ·intro h; cases a; cases b; simp at h; rw [h]
 ·intro h; rw [h]
theorem str_true {a b : ByteArray} (h : a = b) : (a.toList == b.toList) = true := by rw [str_eq]; exact decide_eq_true h
theorem str_false {a b : ByteArray} (h : a ≠ b) : (a.toList == b.toList) = false := by rw [str_eq]; exact decide_eq_false h
end Go.Proofs.YtmfjlcpjemccmaaGreatDoor
