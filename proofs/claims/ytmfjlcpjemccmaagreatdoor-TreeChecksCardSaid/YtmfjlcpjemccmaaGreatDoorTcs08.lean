/- The document's IsToken and JoinOf compute what they should. The document's reader of a name. Each lemma states its own conditions. -/
import Derived.Test.YtmfjlcpjemccmaaGreatDoorTcs07
namespace Go.Proofs.YtmfjlcpjemccmaaGreatDoor
open Go.RowKit
theorem isTok_emp (kind : Int) : isTok kind emp = false := by
 cases h : isTok kind emp with
 | false => rfl
 | true =>
  obtain ⟨_, _, h3, h4⟩ := isTok_iff.1 h
  have h5 := tokAt_pos (tokErr_kind h4)
  rw [h3] at h5
  exact absurd h5.1 (Nat.lt_irrefl 0)
theorem isTok_kn {kind : Int} {s : ByteArray} {k n : Nat} (hs : s.size ≤ 6000) (h : tokAt s 0 = (k, n)) : isTok kind s = decide (kind = k ∧ n = s.size ∧ tokErr s 0 = 0) := by
 unfold isTok
 rw [h]
 congr 1
 simp only [eq_iff_iff]
 exact ⟨fun ⟨_, a, b, c⟩ => ⟨a, b, c⟩, fun ⟨a, b, c⟩ => ⟨hs, a, b, c⟩⟩
set_option maxRecDepth 20000 in
set_option maxHeartbeats 1000000 in
theorem isToken_ref (kind : Int) (s : ByteArray) (w : World) (hm : s.size ≤ maxLen) :
  Calls Tryz.prog 82 #[.int .i64 kind, .string s] w fun r w' => r = .returned (.bool (isTok kind s)) ∧ w = w' := by
 by_cases he : s = emp
 ·subst he
  have HR := Hi_ (isTok_emp kind)
  have d0 : emp.toList = [] := by rw [toList_data]; rfl
  go_enter Tryz.func82, Tryz.ntmps82
  go_wp2
  go_ret
  exact ⟨ret_bool HR.out.symm, rfl⟩
 ·have d0 : s.toList.isEmpty = false := by
   cases h : s.toList.isEmpty with
   | false => rfl
   | true =>
    rw [List.isEmpty_iff, toList_data] at h
    exact absurd (by cases s; simp at h; rw [h]; rfl) he
  have hpos : 0 < s.size := by
   rcases Nat.eq_zero_or_pos s.size with h | h
   ·exfalso; apply he; apply ba_ext
    ·rw [h]; rfl
    ·intro k hk; omega
   ·exact h
  clear he
  by_cases hs : 6000 < s.size
  ·have HR : Hid (isTok kind s = false) := Hi_ (by unfold isTok; rw [decide_eq_false_iff_not]; rintro ⟨h, _⟩; omega)
   go_enter Tryz.func82, Tryz.ntmps82
   go_wp2
   go_ret
   exact ⟨ret_bool HR.out.symm, rfl⟩
  ·clear hm
   by_cases hk : kind = 0
   ·subst hk
    have HR : Hid (isTok 0 s = false) := Hi_ (by
     unfold isTok; rw [decide_eq_false_iff_not]; rintro ⟨_, h1, _, h2⟩
     exact tokErr_kind h2 (by omega))
    go_enter Tryz.func82, Tryz.ntmps82
    go_wp2
    go_ret
    exact ⟨ret_bool HR.out.symm, rfl⟩
   ·have dk : (kind == 0) = false := by simpa using hk
    obtain ⟨k, n, hkn⟩ : ∃ k n, tokAt s 0 = (k, n) := ⟨_, _, rfl⟩
    have hk4 := tokAt_kind s 0
    have HE := Hi_ (tokErr_bt s 0)
    have HR := Hi_ (isTok_kn (kind := kind) (by omega) hkn)
    have hok : ok64 s.size := by unfold ok64; omega
    have HOK := Hi_ hok; clear hok
    rw [hkn] at hk4 HE
    simp only at hk4
    have HK := Hi_ hkn; clear hkn
    rcases hk4 with rfl | rfl | rfl | rfl
    ·have dq : ((0 : Int) == kind) = false := by simp; omega
     have HF : Hid (isTok kind s = false) := Hi_ (by rw [HR.out, decide_eq_false (by rintro ⟨h, _⟩; omega)])
     have HTA := Hi_ (fun W => tokenAt_kn s 0 n 0 W HOK.out hpos (by rw [HK.out]; rfl) (by rw [HK.out]))
     clear HE HR HK
     go_enter Tryz.func82, Tryz.ntmps82
     go_wp2_with (go_at_call 92; refine (HTA.out _).mono ?_; rintro e w' ⟨rfl, rfl⟩)
     go_ret
     first | exact ⟨ret_bool HF.out.symm, rfl⟩ | exact ⟨ret_bool (by rw [HF.out]; simp; omega), rfl⟩
    ·by_cases hq : kind = 1
     ·subst hq
      by_cases hn : n = s.size
      ·have dn : ((n : Int) == (s.size : Int)) = true := by simp; omega
       by_cases h12 : 12 < n
       ·have HF : Hid (isTok 1 s = false) := Hi_ (by rw [HR.out, decide_eq_false (by rintro ⟨_, _, h⟩; rw [HE.out, if_neg (by simp), if_pos (.inl ⟨rfl, h12⟩)] at h; omega)])
        have HTA := Hi_ (fun W => tokenAt_kn s 0 n 1 W HOK.out hpos (by rw [HK.out]; rfl) (by rw [HK.out]))
        clear HE HR HK
        go_enter Tryz.func82, Tryz.ntmps82
        go_wp2_with (go_at_call 92; refine (HTA.out _).mono ?_; rintro e w' ⟨rfl, rfl⟩)
        go_ret
        first | exact ⟨ret_bool HF.out.symm, rfl⟩ | exact ⟨ret_bool (by rw [HF.out]; simp; omega), rfl⟩
       ·have HF : Hid (isTok 1 s = true) := Hi_ (by rw [HR.out, decide_eq_true ⟨rfl, hn, by rw [HE.out, if_neg (by simp), if_neg (by simp; omega), if_neg (by simp)]⟩])
        have HTA := Hi_ (fun W => tokenAt_kn s 0 n 1 W HOK.out hpos (by rw [HK.out]; rfl) (by rw [HK.out]))
        clear HE HR HK
        go_enter Tryz.func82, Tryz.ntmps82
        go_wp2_with (go_at_call 92; refine (HTA.out _).mono ?_; rintro e w' ⟨rfl, rfl⟩)
        go_ret
        first | exact ⟨ret_bool HF.out.symm, rfl⟩ | exact ⟨ret_bool (by rw [HF.out]; simp; omega), rfl⟩
      ·have dn : ((n : Int) == (s.size : Int)) = false := by simp; omega
       have HF : Hid (isTok 1 s = false) := Hi_ (by rw [HR.out, decide_eq_false (by rintro ⟨_, h, _⟩; omega)])
       have HTA := Hi_ (fun W => tokenAt_kn s 0 n 1 W HOK.out hpos (by rw [HK.out]; rfl) (by rw [HK.out]))
       clear HE HR HK
       go_enter Tryz.func82, Tryz.ntmps82
       go_wp2_with (go_at_call 92; refine (HTA.out _).mono ?_; rintro e w' ⟨rfl, rfl⟩)
       go_ret
       first | exact ⟨ret_bool HF.out.symm, rfl⟩ | exact ⟨ret_bool (by rw [HF.out]; simp; omega), rfl⟩
     ·have dq : ((1 : Int) == kind) = false := by simp; omega
      have HF : Hid (isTok kind s = false) := Hi_ (by rw [HR.out, decide_eq_false (by rintro ⟨h, _⟩; omega)])
      have HTA := Hi_ (fun W => tokenAt_kn s 0 n 1 W HOK.out hpos (by rw [HK.out]; rfl) (by rw [HK.out]))
      clear HE HR HK
      go_enter Tryz.func82, Tryz.ntmps82
      go_wp2_with (go_at_call 92; refine (HTA.out _).mono ?_; rintro e w' ⟨rfl, rfl⟩)
      go_ret
      first | exact ⟨ret_bool HF.out.symm, rfl⟩ | exact ⟨ret_bool (by rw [HF.out]; simp; omega), rfl⟩
    ·by_cases hq : kind = 2
     ·subst hq
      by_cases hn : n = s.size
      ·have dn : ((n : Int) == (s.size : Int)) = true := by simp; omega
       by_cases h7 : 7 < n
       ·have HF : Hid (isTok 2 s = false) := Hi_ (by rw [HR.out, decide_eq_false (by rintro ⟨_, _, h⟩; rw [HE.out, if_neg (by simp), if_pos (.inr ⟨rfl, h7⟩)] at h; omega)])
        have HTA := Hi_ (fun W => tokenAt_kn s 0 n 2 W HOK.out hpos (by rw [HK.out]; rfl) (by rw [HK.out]))
        clear HE HR HK
        go_enter Tryz.func82, Tryz.ntmps82
        go_wp2_with (go_at_call 92; refine (HTA.out _).mono ?_; rintro e w' ⟨rfl, rfl⟩)
        go_ret
        first | exact ⟨ret_bool HF.out.symm, rfl⟩ | exact ⟨ret_bool (by rw [HF.out]; simp; omega), rfl⟩
       ·by_cases h1 : 1 < n
        ·by_cases h48 : s[0].toNat = 48
         ·have d48 : ((s[0].toNat : Int) == 48) = true := by simp; omega
          have H48 := Hi_ h48; clear h48
          have HF : Hid (isTok 2 s = false) := Hi_ (by rw [HR.out, decide_eq_false (by rintro ⟨_, _, h⟩; rw [HE.out, if_neg (by simp), if_neg (by simp; omega), if_pos ⟨rfl, h1, by rw [bt_in hpos]; exact H48.out⟩] at h; omega)])
          have HTA := Hi_ (fun W => tokenAt_kn s 0 n 2 W HOK.out hpos (by rw [HK.out]; rfl) (by rw [HK.out]))
          clear HE HR HK
          go_enter Tryz.func82, Tryz.ntmps82
          go_wp2_with (go_at_call 92; refine (HTA.out _).mono ?_; rintro e w' ⟨rfl, rfl⟩)
          go_ret
          first | exact ⟨ret_bool HF.out.symm, rfl⟩ | exact ⟨ret_bool (by rw [HF.out]; simp; omega), rfl⟩
         ·have d48 : ((s[0].toNat : Int) == 48) = false := by simp; omega
          have H48 := Hi_ h48; clear h48
          have HF : Hid (isTok 2 s = true) := Hi_ (by rw [HR.out, decide_eq_true ⟨rfl, hn, by rw [HE.out, if_neg (by simp), if_neg (by simp; omega), if_neg (by rw [bt_in hpos]; exact fun h => H48.out h.2.2)]⟩])
          have HTA := Hi_ (fun W => tokenAt_kn s 0 n 2 W HOK.out hpos (by rw [HK.out]; rfl) (by rw [HK.out]))
          clear HE HR HK
          go_enter Tryz.func82, Tryz.ntmps82
          go_wp2_with (go_at_call 92; refine (HTA.out _).mono ?_; rintro e w' ⟨rfl, rfl⟩)
          go_ret
          first | exact ⟨ret_bool HF.out.symm, rfl⟩ | exact ⟨ret_bool (by rw [HF.out]; simp; omega), rfl⟩
        ·have HF : Hid (isTok 2 s = true) := Hi_ (by rw [HR.out, decide_eq_true ⟨rfl, hn, by rw [HE.out, if_neg (by simp), if_neg (by simp; omega), if_neg (by simp; omega)]⟩])
         have HTA := Hi_ (fun W => tokenAt_kn s 0 n 2 W HOK.out hpos (by rw [HK.out]; rfl) (by rw [HK.out]))
         clear HE HR HK
         go_enter Tryz.func82, Tryz.ntmps82
         go_wp2_with (go_at_call 92; refine (HTA.out _).mono ?_; rintro e w' ⟨rfl, rfl⟩)
         go_ret
         first | exact ⟨ret_bool HF.out.symm, rfl⟩ | exact ⟨ret_bool (by rw [HF.out]; simp; omega), rfl⟩
      ·have dn : ((n : Int) == (s.size : Int)) = false := by simp; omega
       have HF : Hid (isTok 2 s = false) := Hi_ (by rw [HR.out, decide_eq_false (by rintro ⟨_, h, _⟩; omega)])
       have HTA := Hi_ (fun W => tokenAt_kn s 0 n 2 W HOK.out hpos (by rw [HK.out]; rfl) (by rw [HK.out]))
       clear HE HR HK
       go_enter Tryz.func82, Tryz.ntmps82
       go_wp2_with (go_at_call 92; refine (HTA.out _).mono ?_; rintro e w' ⟨rfl, rfl⟩)
       go_ret
       first | exact ⟨ret_bool HF.out.symm, rfl⟩ | exact ⟨ret_bool (by rw [HF.out]; simp; omega), rfl⟩
     ·have dq : ((2 : Int) == kind) = false := by simp; omega
      have HF : Hid (isTok kind s = false) := Hi_ (by rw [HR.out, decide_eq_false (by rintro ⟨h, _⟩; omega)])
      have HTA := Hi_ (fun W => tokenAt_kn s 0 n 2 W HOK.out hpos (by rw [HK.out]; rfl) (by rw [HK.out]))
      clear HE HR HK
      go_enter Tryz.func82, Tryz.ntmps82
      go_wp2_with (go_at_call 92; refine (HTA.out _).mono ?_; rintro e w' ⟨rfl, rfl⟩)
      go_ret
      first | exact ⟨ret_bool HF.out.symm, rfl⟩ | exact ⟨ret_bool (by rw [HF.out]; simp; omega), rfl⟩
    ·by_cases hq : kind = 3
     ·subst hq
      by_cases hn : n = s.size
      ·have dn : ((n : Int) == (s.size : Int)) = true := by simp; omega
       have HF : Hid (isTok 3 s = true) := Hi_ (by rw [HR.out, decide_eq_true ⟨rfl, hn, by rw [HE.out, if_neg (by simp), if_neg (by simp), if_neg (by simp)]⟩])
       have HTA := Hi_ (fun W => tokenAt_kn s 0 n 3 W HOK.out hpos (by rw [HK.out]; rfl) (by rw [HK.out]))
       clear HE HR HK
       go_enter Tryz.func82, Tryz.ntmps82
       go_wp2_with (go_at_call 92; refine (HTA.out _).mono ?_; rintro e w' ⟨rfl, rfl⟩)
       go_ret
       first | exact ⟨ret_bool HF.out.symm, rfl⟩ | exact ⟨ret_bool (by rw [HF.out]; simp; omega), rfl⟩
      ·have dn : ((n : Int) == (s.size : Int)) = false := by simp; omega
       have HF : Hid (isTok 3 s = false) := Hi_ (by rw [HR.out, decide_eq_false (by rintro ⟨_, h, _⟩; omega)])
       have HTA := Hi_ (fun W => tokenAt_kn s 0 n 3 W HOK.out hpos (by rw [HK.out]; rfl) (by rw [HK.out]))
       clear HE HR HK
       go_enter Tryz.func82, Tryz.ntmps82
       go_wp2_with (go_at_call 92; refine (HTA.out _).mono ?_; rintro e w' ⟨rfl, rfl⟩)
       go_ret
       first | exact ⟨ret_bool HF.out.symm, rfl⟩ | exact ⟨ret_bool (by rw [HF.out]; simp; omega), rfl⟩
     ·have dq : ((3 : Int) == kind) = false := by simp; omega
      have HF : Hid (isTok kind s = false) := Hi_ (by rw [HR.out, decide_eq_false (by rintro ⟨h, _⟩; omega)])
      have HTA := Hi_ (fun W => tokenAt_kn s 0 n 3 W HOK.out hpos (by rw [HK.out]; rfl) (by rw [HK.out]))
      clear HE HR HK
      go_enter Tryz.func82, Tryz.ntmps82
      go_wp2_with (go_at_call 92; refine (HTA.out _).mono ?_; rintro e w' ⟨rfl, rfl⟩)
      go_ret
      first | exact ⟨ret_bool HF.out.symm, rfl⟩ | exact ⟨ret_bool (by rw [HF.out]; simp; omega), rfl⟩
def wordTB (k : Nat) : ByteArray := wordsT.getD k emp
theorem wordT_cell {w : World} {G : Nat} {t : TypeId} (h : Blk w G t (wordsT.map Value.string).toArray) {k : Nat} (hk : k < 10) : w.cell? ⟨G, k, none⟩ = some (.string (wordTB k)) := by
 refine Blk.cell h ?_
 unfold wordTB
 rw [List.getElem?_toArray, List.getElem?_map, List.getD_eq_getElem?_getD]
 have : k < wordsT.length := hk
 rw [List.getElem?_eq_getElem this]
 rfl
theorem isWord_yes {s : ByteArray} {k : Nat} (hk : k < 10) (h : wordTB k = s) : isWord s = true := by
 unfold isWord
 rw [List.any_eq_true]
 refine ⟨wordTB k, ?_, decide_eq_true h⟩
 unfold wordTB
 have : k < wordsT.length := hk
 rw [List.getD_eq_getElem?_getD, List.getElem?_eq_getElem this]
 exact List.getElem_mem this
theorem isWord_no {s : ByteArray} (h : ∀ k, k < 10 → wordTB k ≠ s) : isWord s = false := by
 unfold isWord
 rw [List.any_eq_false]
 intro x hx
 obtain ⟨k, hk, rfl⟩ := List.mem_iff_getElem.1 hx
 have := h k hk
 unfold wordTB at this
 rw [List.getD_eq_getElem?_getD, List.getElem?_eq_getElem hk] at this
 simpa using this
set_option maxRecDepth 20000 in
theorem isWord_any (s : ByteArray) (w : World) : Calls Tryz.prog 83 #[.string s] w fun r w' => r = .returned (.bool (isWord s)) ∧ Bel w w' := by
 have HB := Hi_ ((Bel.rfl_ w).al (.cells (wordsT.map Value.string).toArray 9))
 have HW := Hi_ (Blk.new w 9 (wordsT.map Value.string).toArray)
 go_enter Tryz.func83, Tryz.ntmps83
 go_upto_region 2 with fail
 have HW : Hid (Blk (w.alloc (.cells #[.string ⟨#[102, 117, 110, 99]⟩, .string ⟨#[109, 97, 105, 110]⟩, .string ⟨#[118, 97, 114]⟩, .string ⟨#[97, 114, 114]⟩, .string ⟨#[114, 101, 97, 100]⟩, .string ⟨#[112, 114, 105, 110, 116]⟩, .string ⟨#[105, 102]⟩, .string ⟨#[101, 108, 115, 101]⟩, .string ⟨#[119, 104, 105, 108, 101]⟩, .string ⟨#[114, 101, 116, 117, 114, 110]⟩] 9)) w.heap.size 9 (wordsT.map Value.string).toArray) := HW
 have HB : Hid (Bel w (w.alloc (.cells #[.string ⟨#[102, 117, 110, 99]⟩, .string ⟨#[109, 97, 105, 110]⟩, .string ⟨#[118, 97, 114]⟩, .string ⟨#[97, 114, 114]⟩, .string ⟨#[114, 101, 97, 100]⟩, .string ⟨#[112, 114, 105, 110, 116]⟩, .string ⟨#[105, 102]⟩, .string ⟨#[101, 108, 115, 101]⟩, .string ⟨#[119, 104, 105, 108, 101]⟩, .string ⟨#[114, 101, 116, 117, 114, 110]⟩] 9))) := HB
 generalize w.alloc (.cells #[.string ⟨#[102, 117, 110, 99]⟩, .string ⟨#[109, 97, 105, 110]⟩, .string ⟨#[118, 97, 114]⟩, .string ⟨#[97, 114, 114]⟩, .string ⟨#[114, 101, 97, 100]⟩, .string ⟨#[112, 114, 105, 110, 116]⟩, .string ⟨#[105, 102]⟩, .string ⟨#[101, 108, 115, 101]⟩, .string ⟨#[119, 104, 105, 108, 101]⟩, .string ⟨#[114, 101, 116, 117, 114, 110]⟩] 9) = W0 at *
 generalize w.heap.size = G at *
 go_wp2
 go_loopw [4] (fun t wr => ∃ k : Nat, k ≤ 10 ∧ t = .int .i64 k ∧ Hid (∀ j, j < k → wordTB j ≠ s) ∧ wr = W0) (fun t _ => 10 - (intOf t).toNat)
 case atStart => exact ⟨0, by omega, rfl, Hi_ (fun j hj => by omega), rfl⟩
 case round =>
  obtain ⟨k, hk, rfl, HS, rfl⟩ := hrel
  by_cases hlt : k < 10
  ·have hd : decide ((k : Int) < 10) = true := decide_eq_true (by omega)
   have x0 := wordT_cell HW.out hlt
   have i1 : (0 : Int) ≤ k := by omega
   have i2 : (k : Int) < 10 := by omega
   by_cases hs : wordTB k = s
   ·have hse := str_true hs
    have HR := Hi_ (isWord_yes hlt hs)
    clear hs
    go_wp2
    go_ret
    exact ⟨by rw [HR.out]; rfl, HB.out⟩
   ·have hse := str_false hs
    have HS2 : Hid (∀ j, j < k + 1 → wordTB j ≠ s) := Hi_ fun j hj => by
     rcases Nat.lt_succ_iff_lt_or_eq.1 hj with h | rfl
     ·exact HS.out j h
     ·exact hs
    clear hs
    go_wp2
    go_roundw
    case rel => exact ⟨k + 1, by omega, by go_num, HS2, trivial⟩
    case measure => simp [intOf]; omega
  ·obtain rfl : k = 10 := by omega
   have hd : decide (((10 : Nat) : Int) < 10) = false := decide_eq_false (by omega)
   have HR := Hi_ (isWord_no HS.out)
   go_wp2
   go_ret
   exact ⟨by rw [HR.out]; rfl, HB.out⟩
theorem isName_any (s : ByteArray) (w : World) (hm : s.size ≤ maxLen) : Calls Tryz.prog 37 #[.string s] w fun r w' => r = .returned (.bool (isName s)) ∧ Bel w w' := by
 have HT := Hi_ (fun W => (isToken_ref 1 s W hm).mono (R' := fun r w' => r = .returned (.bool (isTok 1 s)) ∧ w' = W) fun _ _ h => ⟨h.1, h.2.symm⟩)
 have HW := Hi_ (fun W => isWord_any s W)
 have HN : Hid (isName s = (isTok 1 s && !isWord s)) := Hi_ rfl
 clear hm
 generalize isWord s = b at *
 generalize isTok 1 s = a at *
 cases a with
 | false =>
  go_enter Tryz.func37, Tryz.ntmps37
  go_wp2_with fail
  refine (HT.out _).mono ?_
  rintro r w1 ⟨rfl, rfl⟩
  go_wp2
  go_ret
  exact ⟨by rw [HN.out]; rfl, Bel.rfl_ _⟩
 | true =>
  go_enter Tryz.func37, Tryz.ntmps37
  go_wp2_with fail
  refine (HT.out _).mono ?_
  rintro r w1 ⟨rfl, rfl⟩
  go_wp2_with fail
  refine (HW.out _).mono ?_
  rintro r w2 ⟨rfl, hb⟩
  have HB := Hi_ hb
  clear hb
  go_wp2
  go_ret
  exact ⟨by rw [HN.out, Bool.true_and]; rfl, HB.out⟩
theorem isName_emp : isName emp = false := by
 unfold isName
 rw [isTok_emp]
 rfl
theorem tok_max {l : List Tok} {p : Nat} {f : Bool} (hm : ∀ t ∈ l, t.text.size ≤ maxLen) : (tx l p f).size ≤ maxLen := by
 by_cases h : tx l p f = emp
 ·rw [h]; exact Nat.zero_le _
 ·obtain ⟨t, h1, h2, -⟩ := tx_some h
  rw [h2]
  exact hm t (List.mem_of_getElem? h1)
theorem nameD_le {l : List Tok} {q : RS} (h : q.1 ≤ l.length) : (nameD l q).2.1 ≤ l.length := by
 unfold nameD
 by_cases hi : isName (tx l q.1 q.2) = true
 ·rw [if_pos hi]
  refine tx_lt (l := l) (p := q.1) (f := q.2) fun e => ?_
  rw [e, isName_emp] at hi
  cases hi
 ·rw [if_neg hi]
  exact h
end Go.Proofs.YtmfjlcpjemccmaaGreatDoor
