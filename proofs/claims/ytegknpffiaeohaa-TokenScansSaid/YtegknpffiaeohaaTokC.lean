/- The document's IsToken and JoinOf compute what they should. Each lemma states its own conditions. -/
import Derived.Test.YtegknpffiaeohaaTokB
namespace Go.Proofs.Ytegknpffiaeohaa
open Go.RowKit

theorem isTok_emp (kind : Int) : isTok kind emp = false := by
  cases h : isTok kind emp with
  | false => rfl
  | true =>
    obtain ⟨_, _, h3, h4⟩ := isTok_iff.1 h
    have h5 := tokAt_pos (tokErr_kind h4)
    rw [h3] at h5
    exact absurd h5.1 (Nat.lt_irrefl 0)
theorem isTok_kn {kind : Int} {s : ByteArray} {k n : Nat} (hs : s.size ≤ 6000) (h : tokAt s 0 = (k, n)) : isTok kind s = decide (kind = k ∧ n = s.size ∧ tokErr s 0 = 0) := by
  unfold isTok
  rw [h]
  congr 1
  simp only [eq_iff_iff]
  exact ⟨fun ⟨_, a, b, c⟩ => ⟨a, b, c⟩, fun ⟨a, b, c⟩ => ⟨hs, a, b, c⟩⟩

set_option maxRecDepth 20000 in
set_option maxHeartbeats 1000000 in
theorem isToken_ref (kind : Int) (s : ByteArray) (w : World) (hm : s.size ≤ maxLen) :
    Calls Try.prog 28 #[.int .i64 kind, .string s] w fun r w' => r = .returned (.bool (isTok kind s)) ∧ w = w' := by
  by_cases he : s = emp
  · subst he
    have HR := Lib.hid (isTok_emp kind)
    have d0 : emp.toList = [] := by rw [toList_data]; rfl
    go_enter Try.func28, Try.ntmps28
    go_wp2
    go_ret
    exact ⟨ret_bool HR.out.symm, rfl⟩
  · have d0 : s.toList.isEmpty = false := by
      cases h : s.toList.isEmpty with
      | false => rfl
      | true =>
        rw [List.isEmpty_iff, toList_data] at h
        exact absurd (by cases s; simp at h; rw [h]; rfl) he
    have hpos : 0 < s.size := by
      rcases Nat.eq_zero_or_pos s.size with h | h
      · exfalso; apply he; apply ba_ext
        · rw [h]; rfl
        · intro k hk; omega
      · exact h
    clear he
    by_cases hs : 6000 < s.size
    · have HR : Hid (isTok kind s = false) := Lib.hid (by unfold isTok; rw [decide_eq_false_iff_not]; rintro ⟨h, _⟩; omega)
      go_enter Try.func28, Try.ntmps28
      go_wp2
      go_ret
      exact ⟨ret_bool HR.out.symm, rfl⟩
    · clear hm
      by_cases hk : kind = 0
      · subst hk
        have HR : Hid (isTok 0 s = false) := Lib.hid (by
          unfold isTok; rw [decide_eq_false_iff_not]; rintro ⟨_, h1, _, h2⟩
          exact tokErr_kind h2 (by omega))
        go_enter Try.func28, Try.ntmps28
        go_wp2
        go_ret
        exact ⟨ret_bool HR.out.symm, rfl⟩
      · have dk : (kind == 0) = false := by simpa using hk
        obtain ⟨k, n, hkn⟩ : ∃ k n, tokAt s 0 = (k, n) := ⟨_, _, rfl⟩
        have hk4 := tokAt_kind s 0
        have HE := Lib.hid (tokErr_bt s 0)
        have HR := Lib.hid (isTok_kn (kind := kind) (by omega) hkn)
        have hok : ok64 s.size := by unfold ok64; omega
        have HOK := Lib.hid hok; clear hok
        rw [hkn] at hk4 HE
        simp only at hk4
        have HK := Lib.hid hkn; clear hkn
        rcases hk4 with rfl | rfl | rfl | rfl
        · have dq : ((0 : Int) == kind) = false := by simp; omega
          have HF : Hid (isTok kind s = false) := Lib.hid (by rw [HR.out, decide_eq_false (by rintro ⟨h, _⟩; omega)])
          have HTA := Lib.hid (fun W => tokenAt_kn s 0 n 0 W HOK.out hpos (by rw [HK.out]; rfl) (by rw [HK.out]))
          clear HE HR HK
          go_enter Try.func28, Try.ntmps28
          go_wp2_with (go_at_call 25; refine (HTA.out _).mono ?_; rintro e w' ⟨rfl, rfl⟩)
          go_ret
          first | exact ⟨ret_bool HF.out.symm, rfl⟩ | exact ⟨ret_bool (by rw [HF.out]; simp; omega), rfl⟩
        · by_cases hq : kind = 1
          · subst hq
            by_cases hn : n = s.size
            · have dn : ((n : Int) == (s.size : Int)) = true := by simp; omega
              by_cases h12 : 12 < n
              · have HF : Hid (isTok 1 s = false) := Lib.hid (by rw [HR.out, decide_eq_false (by rintro ⟨_, _, h⟩; rw [HE.out, if_neg (by simp), if_pos (.inl ⟨rfl, h12⟩)] at h; omega)])
                have HTA := Lib.hid (fun W => tokenAt_kn s 0 n 1 W HOK.out hpos (by rw [HK.out]; rfl) (by rw [HK.out]))
                clear HE HR HK
                go_enter Try.func28, Try.ntmps28
                go_wp2_with (go_at_call 25; refine (HTA.out _).mono ?_; rintro e w' ⟨rfl, rfl⟩)
                go_ret
                first | exact ⟨ret_bool HF.out.symm, rfl⟩ | exact ⟨ret_bool (by rw [HF.out]; simp; omega), rfl⟩
              · have HF : Hid (isTok 1 s = true) := Lib.hid (by rw [HR.out, decide_eq_true ⟨rfl, hn, by rw [HE.out, if_neg (by simp), if_neg (by simp; omega), if_neg (by simp)]⟩])
                have HTA := Lib.hid (fun W => tokenAt_kn s 0 n 1 W HOK.out hpos (by rw [HK.out]; rfl) (by rw [HK.out]))
                clear HE HR HK
                go_enter Try.func28, Try.ntmps28
                go_wp2_with (go_at_call 25; refine (HTA.out _).mono ?_; rintro e w' ⟨rfl, rfl⟩)
                go_ret
                first | exact ⟨ret_bool HF.out.symm, rfl⟩ | exact ⟨ret_bool (by rw [HF.out]; simp; omega), rfl⟩
            · have dn : ((n : Int) == (s.size : Int)) = false := by simp; omega
              have HF : Hid (isTok 1 s = false) := Lib.hid (by rw [HR.out, decide_eq_false (by rintro ⟨_, h, _⟩; omega)])
              have HTA := Lib.hid (fun W => tokenAt_kn s 0 n 1 W HOK.out hpos (by rw [HK.out]; rfl) (by rw [HK.out]))
              clear HE HR HK
              go_enter Try.func28, Try.ntmps28
              go_wp2_with (go_at_call 25; refine (HTA.out _).mono ?_; rintro e w' ⟨rfl, rfl⟩)
              go_ret
              first | exact ⟨ret_bool HF.out.symm, rfl⟩ | exact ⟨ret_bool (by rw [HF.out]; simp; omega), rfl⟩
          · have dq : ((1 : Int) == kind) = false := by simp; omega
            have HF : Hid (isTok kind s = false) := Lib.hid (by rw [HR.out, decide_eq_false (by rintro ⟨h, _⟩; omega)])
            have HTA := Lib.hid (fun W => tokenAt_kn s 0 n 1 W HOK.out hpos (by rw [HK.out]; rfl) (by rw [HK.out]))
            clear HE HR HK
            go_enter Try.func28, Try.ntmps28
            go_wp2_with (go_at_call 25; refine (HTA.out _).mono ?_; rintro e w' ⟨rfl, rfl⟩)
            go_ret
            first | exact ⟨ret_bool HF.out.symm, rfl⟩ | exact ⟨ret_bool (by rw [HF.out]; simp; omega), rfl⟩
        · by_cases hq : kind = 2
          · subst hq
            by_cases hn : n = s.size
            · have dn : ((n : Int) == (s.size : Int)) = true := by simp; omega
              by_cases h7 : 7 < n
              · have HF : Hid (isTok 2 s = false) := Lib.hid (by rw [HR.out, decide_eq_false (by rintro ⟨_, _, h⟩; rw [HE.out, if_neg (by simp), if_pos (.inr ⟨rfl, h7⟩)] at h; omega)])
                have HTA := Lib.hid (fun W => tokenAt_kn s 0 n 2 W HOK.out hpos (by rw [HK.out]; rfl) (by rw [HK.out]))
                clear HE HR HK
                go_enter Try.func28, Try.ntmps28
                go_wp2_with (go_at_call 25; refine (HTA.out _).mono ?_; rintro e w' ⟨rfl, rfl⟩)
                go_ret
                first | exact ⟨ret_bool HF.out.symm, rfl⟩ | exact ⟨ret_bool (by rw [HF.out]; simp; omega), rfl⟩
              · by_cases h1 : 1 < n
                · by_cases h48 : s[0].toNat = 48
                  · have d48 : ((s[0].toNat : Int) == 48) = true := by simp; omega
                    have H48 := Lib.hid h48; clear h48
                    have HF : Hid (isTok 2 s = false) := Lib.hid (by rw [HR.out, decide_eq_false (by rintro ⟨_, _, h⟩; rw [HE.out, if_neg (by simp), if_neg (by simp; omega), if_pos ⟨rfl, h1, by rw [bt_in hpos]; exact H48.out⟩] at h; omega)])
                    have HTA := Lib.hid (fun W => tokenAt_kn s 0 n 2 W HOK.out hpos (by rw [HK.out]; rfl) (by rw [HK.out]))
                    clear HE HR HK
                    go_enter Try.func28, Try.ntmps28
                    go_wp2_with (go_at_call 25; refine (HTA.out _).mono ?_; rintro e w' ⟨rfl, rfl⟩)
                    go_ret
                    first | exact ⟨ret_bool HF.out.symm, rfl⟩ | exact ⟨ret_bool (by rw [HF.out]; simp; omega), rfl⟩
                  · have d48 : ((s[0].toNat : Int) == 48) = false := by simp; omega
                    have H48 := Lib.hid h48; clear h48
                    have HF : Hid (isTok 2 s = true) := Lib.hid (by rw [HR.out, decide_eq_true ⟨rfl, hn, by rw [HE.out, if_neg (by simp), if_neg (by simp; omega), if_neg (by rw [bt_in hpos]; exact fun h => H48.out h.2.2)]⟩])
                    have HTA := Lib.hid (fun W => tokenAt_kn s 0 n 2 W HOK.out hpos (by rw [HK.out]; rfl) (by rw [HK.out]))
                    clear HE HR HK
                    go_enter Try.func28, Try.ntmps28
                    go_wp2_with (go_at_call 25; refine (HTA.out _).mono ?_; rintro e w' ⟨rfl, rfl⟩)
                    go_ret
                    first | exact ⟨ret_bool HF.out.symm, rfl⟩ | exact ⟨ret_bool (by rw [HF.out]; simp; omega), rfl⟩
                · have HF : Hid (isTok 2 s = true) := Lib.hid (by rw [HR.out, decide_eq_true ⟨rfl, hn, by rw [HE.out, if_neg (by simp), if_neg (by simp; omega), if_neg (by simp; omega)]⟩])
                  have HTA := Lib.hid (fun W => tokenAt_kn s 0 n 2 W HOK.out hpos (by rw [HK.out]; rfl) (by rw [HK.out]))
                  clear HE HR HK
                  go_enter Try.func28, Try.ntmps28
                  go_wp2_with (go_at_call 25; refine (HTA.out _).mono ?_; rintro e w' ⟨rfl, rfl⟩)
                  go_ret
                  first | exact ⟨ret_bool HF.out.symm, rfl⟩ | exact ⟨ret_bool (by rw [HF.out]; simp; omega), rfl⟩
            · have dn : ((n : Int) == (s.size : Int)) = false := by simp; omega
              have HF : Hid (isTok 2 s = false) := Lib.hid (by rw [HR.out, decide_eq_false (by rintro ⟨_, h, _⟩; omega)])
              have HTA := Lib.hid (fun W => tokenAt_kn s 0 n 2 W HOK.out hpos (by rw [HK.out]; rfl) (by rw [HK.out]))
              clear HE HR HK
              go_enter Try.func28, Try.ntmps28
              go_wp2_with (go_at_call 25; refine (HTA.out _).mono ?_; rintro e w' ⟨rfl, rfl⟩)
              go_ret
              first | exact ⟨ret_bool HF.out.symm, rfl⟩ | exact ⟨ret_bool (by rw [HF.out]; simp; omega), rfl⟩
          · have dq : ((2 : Int) == kind) = false := by simp; omega
            have HF : Hid (isTok kind s = false) := Lib.hid (by rw [HR.out, decide_eq_false (by rintro ⟨h, _⟩; omega)])
            have HTA := Lib.hid (fun W => tokenAt_kn s 0 n 2 W HOK.out hpos (by rw [HK.out]; rfl) (by rw [HK.out]))
            clear HE HR HK
            go_enter Try.func28, Try.ntmps28
            go_wp2_with (go_at_call 25; refine (HTA.out _).mono ?_; rintro e w' ⟨rfl, rfl⟩)
            go_ret
            first | exact ⟨ret_bool HF.out.symm, rfl⟩ | exact ⟨ret_bool (by rw [HF.out]; simp; omega), rfl⟩
        · by_cases hq : kind = 3
          · subst hq
            by_cases hn : n = s.size
            · have dn : ((n : Int) == (s.size : Int)) = true := by simp; omega
              have HF : Hid (isTok 3 s = true) := Lib.hid (by rw [HR.out, decide_eq_true ⟨rfl, hn, by rw [HE.out, if_neg (by simp), if_neg (by simp), if_neg (by simp)]⟩])
              have HTA := Lib.hid (fun W => tokenAt_kn s 0 n 3 W HOK.out hpos (by rw [HK.out]; rfl) (by rw [HK.out]))
              clear HE HR HK
              go_enter Try.func28, Try.ntmps28
              go_wp2_with (go_at_call 25; refine (HTA.out _).mono ?_; rintro e w' ⟨rfl, rfl⟩)
              go_ret
              first | exact ⟨ret_bool HF.out.symm, rfl⟩ | exact ⟨ret_bool (by rw [HF.out]; simp; omega), rfl⟩
            · have dn : ((n : Int) == (s.size : Int)) = false := by simp; omega
              have HF : Hid (isTok 3 s = false) := Lib.hid (by rw [HR.out, decide_eq_false (by rintro ⟨_, h, _⟩; omega)])
              have HTA := Lib.hid (fun W => tokenAt_kn s 0 n 3 W HOK.out hpos (by rw [HK.out]; rfl) (by rw [HK.out]))
              clear HE HR HK
              go_enter Try.func28, Try.ntmps28
              go_wp2_with (go_at_call 25; refine (HTA.out _).mono ?_; rintro e w' ⟨rfl, rfl⟩)
              go_ret
              first | exact ⟨ret_bool HF.out.symm, rfl⟩ | exact ⟨ret_bool (by rw [HF.out]; simp; omega), rfl⟩
          · have dq : ((3 : Int) == kind) = false := by simp; omega
            have HF : Hid (isTok kind s = false) := Lib.hid (by rw [HR.out, decide_eq_false (by rintro ⟨h, _⟩; omega)])
            have HTA := Lib.hid (fun W => tokenAt_kn s 0 n 3 W HOK.out hpos (by rw [HK.out]; rfl) (by rw [HK.out]))
            clear HE HR HK
            go_enter Try.func28, Try.ntmps28
            go_wp2_with (go_at_call 25; refine (HTA.out _).mono ?_; rintro e w' ⟨rfl, rfl⟩)
            go_ret
            first | exact ⟨ret_bool HF.out.symm, rfl⟩ | exact ⟨ret_bool (by rw [HF.out]; simp; omega), rfl⟩

theorem emp_app (b : ByteArray) : emp ++ b = b := by
  apply ba_ext
  · rw [ByteArray.size_append]; exact Nat.zero_add _
  · intro k hk
    rw [bt_append, if_neg (show ¬ k < emp.size from Nat.not_lt_zero k)]; rfl
theorem allTok_snoc (l : List Tok) (t : Tok) : allTok (l ++ [t]) = (allTok l && isTok t.kind t.text) := by
  unfold allTok
  rw [List.all_append]; simp
theorem allTok_take {l : List Tok} {k : Nat} {t : Tok} (ht : l[k]? = some t) (h : isTok t.kind t.text = false) : allTok l = false := by
  unfold allTok
  rw [List.all_eq_false]
  exact ⟨t, List.mem_of_getElem? ht, by simp [h]⟩
theorem take_snoc {α : Type} {l : List α} {k : Nat} {t : α} (ht : l[k]? = some t) : l.take (k + 1) = l.take k ++ [t] := by
  rw [List.take_add_one, ht]; rfl

end Go.Proofs.Ytegknpffiaeohaa
