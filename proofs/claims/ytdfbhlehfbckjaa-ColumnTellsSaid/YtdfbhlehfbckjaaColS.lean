/- ColumnBack: the walk. Each lemma states its own conditions. -/
import Derived.Test.YtdfbhlehfbckjaaColR
namespace Go.Proofs.Ytdfbhlehfbckjaa
open Go.RowKit

theorem encErr_ne {l : List Ev} (h : encErr l ≠ 0) : (encErr l == 0) = false := by simpa using h
theorem encStr_size (l : List Ev) : ok64 (encStr l).size := by
  unfold ok64 encStr
  by_cases h : encErr l = 0
  · rw [if_pos h, strOfNums_size]
    have h1 := encErr_len h
    have h2 : l.all evSmall = true := by
      unfold encErr at h
      rw [if_neg (by omega)] at h
      by_cases hs : l.all evSmall = true
      · exact hs
      · rw [if_neg hs] at h; omega
    have := encCols_len h1 h2 6 (by omega)
    omega
  · rw [if_neg h, strOfNums_size]
    simp

theorem colBack_any (v : Value) (l : List Ev) (s : ByteArray) (w : World) (h : Sl evR w v l) (hok : ok64 l.length) (hs : ok64 s.size) :
    Calls Try.prog 6 #[v, .string s] w fun r w' => r = .returned (.bool true) ∧ Bel w w' := by
  have H := Lib.hid h; clear h
  by_cases he : encErr l = 0
  · have HE := Lib.hid he; have HD := Lib.hid (dec_enc he); clear he
    by_cases hf : (decOf s).1 = 0
    · have h0 : decOf s = (0, (decOf s).2) := by rw [← hf]
      have HL := Lib.hid (decOf_len s)
      generalize (decOf s).2 = L at h0 HL
      have HB := Lib.hid (enc_dec h0)
      have HF := Lib.hid h0; clear h0 hf
      go_enter Try.func6, Try.ntmps6
      go_wp2_with fail
      refine (columnBegun_any _).mono ?_
      rintro e w1 ⟨rfl, hb1⟩
      have HB1 := Lib.hid hb1; have H1 := Lib.hid (H.out.keep hb1); clear hb1
      go_wp2_with fail
      refine (encode_any _ l _ H1.out hok).mono ?_
      rintro e w2 ⟨rfl, hb2⟩
      rw [HE.out]
      have HB2 := Lib.hid (HB1.out.tr hb2); have H2 := Lib.hid (H1.out.keep hb2); clear hb2
      go_wp2_with fail
      refine (decode_any _ _ (encStr_size l)).mono ?_
      rintro e w3 ⟨u3, rfl, hs3, hb3⟩
      rw [HD.out] at hs3 ⊢
      have HB3 := Lib.hid (HB2.out.tr hb3); have H3 := Lib.hid (H2.out.keep hb3); have HS3 := Lib.hid hs3; clear hb3 hs3
      go_wp2_with fail
      refine (sameEvents_any _ _ l l _ HS3.out H3.out hok hok).mono ?_
      rintro e w4 ⟨rfl, hb4⟩
      have HB4 := Lib.hid (HB3.out.tr hb4); clear hb4
      simp only [decide_true]
      go_wp2_with fail
      refine (decode_any s _ hs).mono ?_
      rintro e w5 ⟨u5, rfl, hs5, hb5⟩
      rw [HF.out] at hs5 ⊢
      have HB5 := Lib.hid (HB4.out.tr hb5); have HS5 := Lib.hid hs5; clear hb5 hs5
      go_wp2_with fail
      refine (encode_any _ L _ HS5.out HL.out).mono ?_
      rintro e w6 ⟨rfl, hb6⟩
      rw [HB.out.1, HB.out.2]
      have HB6 := Lib.hid (HB5.out.tr hb6); clear hb6
      go_wp2
      go_ret
      exact ⟨ret_bool (by simp), HB6.out⟩
    · have hd : ((decOf s).1 == 0) = false := by simpa using hf
      have hd2 : ((decOf s).1 != 0) = true := by simpa using hf
      have HN := Lib.hid (decOf_err s hf); clear hf
      go_enter Try.func6, Try.ntmps6
      go_wp2_with fail
      refine (columnBegun_any _).mono ?_
      rintro e w1 ⟨rfl, hb1⟩
      have HB1 := Lib.hid hb1; have H1 := Lib.hid (H.out.keep hb1); clear hb1
      go_wp2_with fail
      refine (encode_any _ l _ H1.out hok).mono ?_
      rintro e w2 ⟨rfl, hb2⟩
      rw [HE.out]
      have HB2 := Lib.hid (HB1.out.tr hb2); have H2 := Lib.hid (H1.out.keep hb2); clear hb2
      go_wp2_with fail
      refine (decode_any _ _ (encStr_size l)).mono ?_
      rintro e w3 ⟨u3, rfl, hs3, hb3⟩
      rw [HD.out] at hs3 ⊢
      have HB3 := Lib.hid (HB2.out.tr hb3); have H3 := Lib.hid (H2.out.keep hb3); have HS3 := Lib.hid hs3; clear hb3 hs3
      go_wp2_with fail
      refine (sameEvents_any _ _ l l _ HS3.out H3.out hok hok).mono ?_
      rintro e w4 ⟨rfl, hb4⟩
      have HB4 := Lib.hid (HB3.out.tr hb4); clear hb4
      simp only [decide_true]
      go_wp2_with fail
      refine (decode_any s _ hs).mono ?_
      rintro e w5 ⟨u5, rfl, hs5, hb5⟩
      rw [HN.out] at hs5
      obtain ⟨A, c, rfl, _, _, _⟩ := hs5
      have HB5 := Lib.hid (HB4.out.tr hb5); clear hb5
      go_wp2
      go_ret
      exact ⟨ret_bool (by simp), HB5.out⟩
  · have he0 : (encErr l == 0) = false := encErr_ne he
    clear he
    by_cases hf : (decOf s).1 = 0
    · have h0 : decOf s = (0, (decOf s).2) := by rw [← hf]
      have HL := Lib.hid (decOf_len s)
      generalize (decOf s).2 = L at h0 HL
      have HB := Lib.hid (enc_dec h0)
      have HF := Lib.hid h0; clear h0 hf
      go_enter Try.func6, Try.ntmps6
      go_wp2_with fail
      refine (columnBegun_any _).mono ?_
      rintro e w1 ⟨rfl, hb1⟩
      have HB1 := Lib.hid hb1; have H1 := Lib.hid (H.out.keep hb1); clear hb1
      go_wp2_with fail
      refine (encode_any _ l _ H1.out hok).mono ?_
      rintro e w2 ⟨rfl, hb2⟩
      have HB2 := Lib.hid (HB1.out.tr hb2); clear hb2
      go_wp2_with fail
      refine (decode_any s _ hs).mono ?_
      rintro e w5 ⟨u5, rfl, hs5, hb5⟩
      rw [HF.out] at hs5 ⊢
      have HB5 := Lib.hid (HB2.out.tr hb5); have HS5 := Lib.hid hs5; clear hb5 hs5
      go_wp2_with fail
      refine (encode_any _ L _ HS5.out HL.out).mono ?_
      rintro e w6 ⟨rfl, hb6⟩
      rw [HB.out.1, HB.out.2]
      have HB6 := Lib.hid (HB5.out.tr hb6); clear hb6
      go_wp2
      go_ret
      exact ⟨ret_bool (by simp), HB6.out⟩
    · have hd : ((decOf s).1 == 0) = false := by simpa using hf
      have hd2 : ((decOf s).1 != 0) = true := by simpa using hf
      have HN := Lib.hid (decOf_err s hf); clear hf
      go_enter Try.func6, Try.ntmps6
      go_wp2_with fail
      refine (columnBegun_any _).mono ?_
      rintro e w1 ⟨rfl, hb1⟩
      have HB1 := Lib.hid hb1; have H1 := Lib.hid (H.out.keep hb1); clear hb1
      go_wp2_with fail
      refine (encode_any _ l _ H1.out hok).mono ?_
      rintro e w2 ⟨rfl, hb2⟩
      have HB2 := Lib.hid (HB1.out.tr hb2); clear hb2
      go_wp2_with fail
      refine (decode_any s _ hs).mono ?_
      rintro e w5 ⟨u5, rfl, hs5, hb5⟩
      rw [HN.out] at hs5
      obtain ⟨A, c, rfl, _, _, _⟩ := hs5
      have HB5 := Lib.hid (HB2.out.tr hb5); clear hb5
      go_wp2
      go_ret
      exact ⟨ret_bool (by simp), HB5.out⟩

end Go.Proofs.Ytdfbhlehfbckjaa
