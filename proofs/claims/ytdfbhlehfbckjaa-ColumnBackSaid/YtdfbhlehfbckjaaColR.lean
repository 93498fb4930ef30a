/- ColumnTells: the walk. Each lemma states its own conditions. -/
import Derived.Test.YtdfbhlehfbckjaaColN
namespace Go.Proofs.Ytdfbhlehfbckjaa
open Go.RowKit

theorem decOf_err (s : ByteArray) : (decOf s).1 ≠ 0 → (decOf s).2 = [] := by
  unfold decOf
  repeat' split
  all_goals first | (intro _; rfl) | (intro h; exact absurd rfl h)
theorem encErr_len {l : List Ev} (h : encErr l = 0) : l.length ≤ 4000 := by
  unfold encErr at h
  by_cases h1 : 4000 < l.length
  · rw [if_pos h1] at h; omega
  · omega
theorem decOf_len (s : ByteArray) : ok64 (decOf s).2.length := by
  unfold ok64
  by_cases h : (decOf s).1 = 0
  · have h1 : decOf s = (0, (decOf s).2) := by rw [← h]
    have := encErr_len (enc_dec h1).1
    omega
  · rw [decOf_err s h]
    simp


theorem colTells_any (v : Value) (l : List Ev) (s : ByteArray) (w : World) (h : Sl evR w v l) (hok : ok64 l.length) (hs : ok64 s.size) :
    Calls Try.prog 5 #[v, .string s] w fun r w' => r = .returned (.bool true) ∧ Bel w w' := by
  have H := Lib.hid h
  obtain ⟨A, c, rfl, hc, hm, hA⟩ := h
  clear hA
  have hok' := hok
  unfold ok64 at hok'
  have hE := str_nil
  by_cases hl : 4000 < l.length
  · have hd : decide ((4000 : Int) < (l.length : Int)) = true := decide_eq_true (by omega)
    have he : encErr l = 2 := by unfold encErr; rw [if_pos hl]
    have hes : encStr l = strOfNums [] := by unfold encStr; rw [if_neg (by rw [he]; decide)]
    have HE := Lib.hid he; have HS := Lib.hid hes; clear he hes
    go_enter Try.func5, Try.ntmps5
    go_wp2_with fail
    refine (encode_any _ l _ H.out hok).mono ?_
    rintro e w1 ⟨rfl, hb1⟩
    rw [HE.out, HS.out]
    have HB1 := Lib.hid hb1; have H1 := Lib.hid (H.out.keep hb1); clear hb1
    go_wp2_with fail
    refine (decode_any s _ hs).mono ?_
    rintro e w2 ⟨u2, rfl, hs2, hb2⟩
    have HB2 := Lib.hid (HB1.out.tr hb2); have HS2 := Lib.hid hs2; clear hb2 hs2 HB1 H1
    go_wp2_with fail
    refine (decodeOf_any s _ hs).mono ?_
    rintro e w3 ⟨u3, rfl, hs3, hb3⟩
    have HB3 := Lib.hid (HB2.out.tr hb3); have HS3 := Lib.hid hs3; have HS2 := Lib.hid (HS2.out.keep hb3); clear hb3 hs3 HB2
    go_wp2_with fail
    refine (columnBegun_any _).mono ?_
    rintro e w4 ⟨rfl, hb4⟩
    have HB4 := Lib.hid (HB3.out.tr hb4); have HS3 := Lib.hid (HS3.out.keep hb4); have HS2 := Lib.hid (HS2.out.keep hb4); clear hb4 HB3
    go_wp2_with fail
    refine (eventsAre_any _ _ _ _ _ _ _ HS2.out HS3.out (decOf_len s) (decOf_len s) (decOf_err s)).mono ?_
    rintro e w5 ⟨rfl, hb5⟩
    have HB5 := Lib.hid (HB4.out.tr hb5); clear hb5
    simp only [true_and, decide_true]
    go_wp2
    go_ret
    exact ⟨rfl, HB5.out⟩
  · have hd : decide ((4000 : Int) < (l.length : Int)) = false := decide_eq_false (by omega)
    cases hsm : l.all evSmall with
    | false =>
      have he : encErr l = 3 := by unfold encErr; rw [if_neg hl, if_neg (by simp [hsm])]
      have hes : encStr l = strOfNums [] := by unfold encStr; rw [if_neg (by rw [he]; decide)]
      have HE := Lib.hid he; have HS := Lib.hid hes; have HSM := Lib.hid hsm; clear he hes hsm
      go_enter Try.func5, Try.ntmps5
      go_wp2_with fail
      refine (encode_any _ l _ H.out hok).mono ?_
      rintro e w1 ⟨rfl, hb1⟩
      rw [HE.out, HS.out]
      have HB1 := Lib.hid hb1; have H1 := Lib.hid (H.out.keep hb1); clear hb1
      go_wp2_with fail
      refine (decode_any s _ hs).mono ?_
      rintro e w2 ⟨u2, rfl, hs2, hb2⟩
      have HB2 := Lib.hid (HB1.out.tr hb2); have HS2 := Lib.hid hs2; have H2 := Lib.hid (H1.out.keep hb2); clear hb2 hs2 HB1 H1
      go_wp2_with fail
      refine (areSmall_any _ l _ H2.out hok).mono ?_
      rintro e w2' ⟨rfl, hb2⟩
      rw [HSM.out]
      have HB2 := Lib.hid (HB2.out.tr hb2); have HS2 := Lib.hid (HS2.out.keep hb2); clear hb2 H2
      go_wp2_with fail
      refine (decodeOf_any s _ hs).mono ?_
      rintro e w3 ⟨u3, rfl, hs3, hb3⟩
      have HB3 := Lib.hid (HB2.out.tr hb3); have HS3 := Lib.hid hs3; have HS2 := Lib.hid (HS2.out.keep hb3); clear hb3 hs3 HB2
      go_wp2_with fail
      refine (columnBegun_any _).mono ?_
      rintro e w4 ⟨rfl, hb4⟩
      have HB4 := Lib.hid (HB3.out.tr hb4); have HS3 := Lib.hid (HS3.out.keep hb4); have HS2 := Lib.hid (HS2.out.keep hb4); clear hb4 HB3
      go_wp2_with fail
      refine (eventsAre_any _ _ _ _ _ _ _ HS2.out HS3.out (decOf_len s) (decOf_len s) (decOf_err s)).mono ?_
      rintro e w5 ⟨rfl, hb5⟩
      have HB5 := Lib.hid (HB4.out.tr hb5); clear hb5
      simp only [true_and, decide_true]
      go_wp2
      go_ret
      exact ⟨rfl, HB5.out⟩
    | true =>
      have he : encErr l = 0 := by unfold encErr; rw [if_neg hl, if_pos hsm]
      have hes : encStr l = strOfNums (encCols l 6) := by unfold encStr; rw [if_pos he]
      have HE := Lib.hid he; have HS := Lib.hid hes; have HSM := Lib.hid hsm; clear he hes hsm
      go_enter Try.func5, Try.ntmps5
      go_wp2_with fail
      refine (encode_any _ l _ H.out hok).mono ?_
      rintro e w1 ⟨rfl, hb1⟩
      rw [HE.out, HS.out]
      have HB1 := Lib.hid hb1; have H1 := Lib.hid (H.out.keep hb1); clear hb1
      go_wp2_with fail
      refine (decode_any s _ hs).mono ?_
      rintro e w2 ⟨u2, rfl, hs2, hb2⟩
      have HB2 := Lib.hid (HB1.out.tr hb2); have HS2 := Lib.hid hs2; have H2 := Lib.hid (H1.out.keep hb2); clear hb2 hs2 HB1 H1
      go_wp2_with fail
      refine (areSmall_any _ l _ H2.out hok).mono ?_
      rintro e w2' ⟨rfl, hb2⟩
      rw [HSM.out]
      have HB2 := Lib.hid (HB2.out.tr hb2); have HS2 := Lib.hid (HS2.out.keep hb2); have H2 := Lib.hid (H2.out.keep hb2); clear hb2
      go_wp2_with fail
      refine (encodeOf_any _ l _ H2.out (by omega) HSM.out).mono ?_
      rintro e w2'' ⟨rfl, hb2⟩
      have HB2 := Lib.hid (HB2.out.tr hb2); have HS2 := Lib.hid (HS2.out.keep hb2); clear hb2 H2
      go_wp2_with fail
      refine (decodeOf_any s _ hs).mono ?_
      rintro e w3 ⟨u3, rfl, hs3, hb3⟩
      have HB3 := Lib.hid (HB2.out.tr hb3); have HS3 := Lib.hid hs3; have HS2 := Lib.hid (HS2.out.keep hb3); clear hb3 hs3 HB2
      go_wp2_with fail
      refine (columnBegun_any _).mono ?_
      rintro e w4 ⟨rfl, hb4⟩
      have HB4 := Lib.hid (HB3.out.tr hb4); have HS3 := Lib.hid (HS3.out.keep hb4); have HS2 := Lib.hid (HS2.out.keep hb4); clear hb4 HB3
      go_wp2_with fail
      refine (eventsAre_any _ _ _ _ _ _ _ HS2.out HS3.out (decOf_len s) (decOf_len s) (decOf_err s)).mono ?_
      rintro e w5 ⟨rfl, hb5⟩
      have HB5 := Lib.hid (HB4.out.tr hb5); clear hb5
      simp only [true_and, decide_true]
      go_wp2
      go_ret
      exact ⟨rfl, HB5.out⟩

end Go.Proofs.Ytdfbhlehfbckjaa
