/- ColumnTells, ColumnBack: the walks. Each lemma states its own conditions. -/
import Derived.Test.YtdfbhlehfbckjaaColQ
import Derived.Test.YtdfbhlehfbckjaaIdxE
namespace Go.Proofs.Ytdfbhlehfbckjaa
open Go.RowKit

theorem eventsAre_any (v u : Value) (xs ys : List Ev) (e f : Int) (w : World) (hx : Sl evR w v xs) (hy : Sl evR w u ys) (hlx : ok64 xs.length) (hly : ok64 ys.length) (hf : f ≠ 0 → ys = []) :
    Calls Try.prog 20 #[v, .int .i64 e, .int .i64 f, u] w fun r w' => r = .returned (.bool (decide (e = f ∧ xs = ys))) ∧ Bel w w' := by
  by_cases h0 : f = 0
  · subst h0
    by_cases he : e = 0
    · subst he
      have H := Lib.hid (sameEvents_any v u xs ys w hx hy hlx hly)
      clear hx hy hf
      go_enter Try.func20, Try.ntmps20
      go_wp2_with fail
      refine H.out.mono ?_
      rintro e w1 ⟨rfl, hb1⟩
      have HB1 := Lib.hid hb1; clear hb1
      go_wp2
      go_ret
      exact ⟨ret_bool (by simp), HB1.out⟩
    · have hd : (e == 0) = false := by simpa using he
      clear hx hy hf
      have HE := Lib.hid he; clear he
      go_enter Try.func20, Try.ntmps20
      go_wp2
      go_ret
      exact ⟨ret_bool (by have := HE.out; simp [this]), Bel.rfl_ w⟩
  · have hys := hf h0
    subst hys
    have hd0 : (f != 0) = true := by simpa using h0
    have H := Lib.hid (sameEvents_any v (.slice none 0 0) xs [] w hx (Sl.nil_ _ _) hlx (by unfold ok64; decide))
    by_cases he : e = f
    · subst he
      have H0 := Lib.hid h0
      clear hx hy hf h0
      go_enter Try.func20, Try.ntmps20
      go_wp2_with fail
      refine H.out.mono ?_
      rintro e w1 ⟨rfl, hb1⟩
      have HB1 := Lib.hid hb1; clear hb1
      go_wp2
      go_ret
      exact ⟨ret_bool (by simp), HB1.out⟩
    · have hd : (e == f) = false := by simpa using he
      have HE := Lib.hid he; clear he hx hy hf h0
      go_enter Try.func20, Try.ntmps20
      go_wp2
      go_ret
      exact ⟨ret_bool (by have := HE.out; simp [this]), Bel.rfl_ w⟩

theorem smallT_len : (encStr smallT).size = 37 := by
  have h : encErr smallT = 0 := by unfold encErr; rw [if_neg (by decide), if_pos (by decide)]
  unfold encStr
  rw [if_pos h, strOfNums_size]
  simp [encCols, col, smallT, encFrom, colv, zig, natB_lo]

theorem columnBegun_any (w : World) : Calls Try.prog 19 #[] w fun r w' => r = .returned (.bool true) ∧ Bel w w' := by
  have hE : encErr smallT = 0 := by unfold encErr; rw [if_neg (by decide), if_pos (by decide)]
  have HD := Lib.hid (dec_enc hE)
  have HE := Lib.hid hE; clear hE
  have hS := smallT_len
  go_enter Try.func19, Try.ntmps19
  go_wp2_with fail
  refine (smallTrace_any _).mono ?_
  rintro e w1 ⟨u1, rfl, hs1, hb1⟩
  have HB1 := Lib.hid hb1; have HS1 := Lib.hid hs1; clear hb1 hs1
  go_wp2_with fail
  refine (encode_any _ smallT _ HS1.out (by unfold ok64; decide)).mono ?_
  rintro e w2 ⟨rfl, hb2⟩
  rw [HE.out]
  have HB2 := Lib.hid (HB1.out.tr hb2); clear hb2 HB1 HS1
  go_wp2_with fail
  refine (decode_any _ _ (by rw [smallT_len]; unfold ok64; decide)).mono ?_
  rintro e w3 ⟨v3, rfl, hs3, hb3⟩
  rw [HD.out] at hs3 ⊢
  have HB3 := Lib.hid (HB2.out.tr hb3); have HS3 := Lib.hid hs3; clear hb3 hs3 HB2
  go_wp2_with fail
  refine (smallTrace_any _).mono ?_
  rintro e w4 ⟨u4, rfl, hs4, hb4⟩
  have HB4 := Lib.hid (HB3.out.tr hb4); have HS4 := Lib.hid hs4; have HS3 := Lib.hid (HS3.out.keep hb4); clear hb4 hs4 HB3
  go_wp2_with fail
  refine (sameEvents_any _ _ smallT smallT _ HS3.out HS4.out (by unfold ok64; decide) (by unfold ok64; decide)).mono ?_
  rintro e w5 ⟨rfl, hb5⟩
  have HB5 := Lib.hid (HB4.out.tr hb5); clear hb5
  simp only [decide_true]
  go_wp2
  go_ret
  exact ⟨ret_bool (by simp), HB5.out⟩

end Go.Proofs.Ytdfbhlehfbckjaa
