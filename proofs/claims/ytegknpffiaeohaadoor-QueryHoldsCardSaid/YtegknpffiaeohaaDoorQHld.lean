/- QueryHolds answers true: the walk. Each lemma states its own conditions. -/
import Derived.Test.YtegknpffiaeohaaDoorQBeg
namespace Go.Proofs.YtegknpffiaeohaaDoor
open Go.RowKit

set_option maxRecDepth 20000 in
set_option maxHeartbeats 1000000 in
theorem qHolds_any (q : Ask) (val lv : Value) (l : List Ev) (w : World) (h : AskV w q val) (hv : Sl evR w lv l) (hl : l.length * 48 ≤ 140737488351232) (ht : Tab w) :
    Calls Tryd.prog 6 #[val, lv] w fun r w' => r = .returned (.bool true) ∧ Bel w w' := by
  have HH := Lib.hid (fun W (hb : Bel w W) => holds_any q val lv l W (h.keep hb) (hv.keep hb) (by unfold ok64; omega))
  have HC := Lib.hid (fun W (hb : Bel w W) => checkAsk_any q val W (h.keep hb))
  have HO := Lib.hid (fun (he : q.err = 0) (h4 : l.length ≤ 4000) W (hb : Bel w W) => holdsOf_any l h4 q (Ask.err_zero he) val lv W (h.keep hb) (hv.keep hb))
  have HBG := Lib.hid (fun W (hb : Bel w W) => queryBegun_any W (ht.keep hb))
  have HLL := Lib.hid (holdL_length q l).1
  have HER : Hid ((if q.err = 0 then if 4000 < l.length then 2 else 0 else q.err) = holdErr q l.length) := Lib.hid rfl
  have HLE : Hid ((if holdErr q l.length = 0 then q.holds l else []) = holdL q l) := Lib.hid rfl
  obtain ⟨v, rfl, hs⟩ := h
  obtain ⟨A, c, rfl, -⟩ := hs
  obtain ⟨LA, lc, rfl, -⟩ := hv
  have HQ := Lib.hid (Blk.new w 24 #[.int .i64 q.kind, .int .i64 q.n, .slice A q.args.length c])
  have HB := Lib.hid ((Bel.rfl_ w).al (.cells #[.int .i64 q.kind, .int .i64 q.n, .slice A q.args.length c] 24))
  clear ht
  generalize q.err = e at *
  generalize holdErr q l.length = E at *
  generalize holdL q l = L at *
  generalize q.holds l = QL at *
  generalize q.kind = k at *
  generalize q.n = n at *
  generalize q.args.length = m at *
  go_enter Tryd.func6, Tryd.ntmps6
  go_upto_region 1 with fail
  generalize w.alloc (.cells #[.int .i64 k, .int .i64 n, .slice A m c] 24) = W0 at *
  generalize w.heap.size = Q at *
  have q0 := HQ.out.cell (i := 0) (v := .int .i64 k) rfl
  have q1 := HQ.out.cell (i := 1) (v := .int .i64 n) rfl
  have q2 := HQ.out.cell (i := 2) (v := .slice A m c) rfl
  go_wp2_with fail
  refine (HH.out _ HB.out).mono ?_
  rintro r w1 ⟨u1, rfl, hs1, hb1⟩
  have hsl := hs1.sl
  obtain ⟨UA, uc, rfl, -⟩ := id hsl
  have HS1 := Lib.hid hsl
  replace HB := Lib.hid (HB.out.tr hb1)
  replace HQ := Lib.hid (HQ.out.keep hb1)
  clear hb1 hs1 hsl q0 q1 q2 HH
  have q0 := HQ.out.cell (i := 0) (v := .int .i64 k) rfl
  have q1 := HQ.out.cell (i := 1) (v := .int .i64 n) rfl
  have q2 := HQ.out.cell (i := 2) (v := .slice A m c) rfl
  go_wp2_with fail
  refine (HC.out _ HB.out).mono ?_
  rintro r w2 ⟨rfl, hb2⟩
  replace HB := Lib.hid (HB.out.tr hb2)
  replace HQ := Lib.hid (HQ.out.keep hb2)
  replace HS1 := Lib.hid (HS1.out.keep hb2)
  clear hb2 q0 q1 q2 HC
  by_cases he : e = 0
  · by_cases h4 : 4000 < l.length
    · have HE : Hid (2 = E) := Lib.hid (by rw [← HER.out, if_pos he, if_pos h4])
      have HLZ : Hid (L = []) := Lib.hid (by rw [← HLE.out, ← HE.out, if_neg (by decide)])
      have d4 : decide ((4000 : Int) < l.length) = true := decide_eq_true (by omega)
      rw [HLZ.out] at HS1
      rw [HLZ.out]
      obtain rfl : E = 2 := HE.out.symm
      subst he
      clear HO HER HLE HLZ HE
      go_wp2_with fail
      refine (HBG.out _ HB.out).mono ?_
      rintro r w3 ⟨rfl, hb3⟩
      replace HB := Lib.hid (HB.out.tr hb3)
      have HSB := Lib.hid (sameBools_any [] _ (.slice none 0 0) w3 (HS1.out.keep hb3) (Sl.nil_ _ _) (by decide))
      clear hb3
      go_wp2_with fail
      refine HSB.out.mono ?_
      rintro r w4 ⟨rfl, hb4⟩
      replace HB := Lib.hid (HB.out.tr hb4)
      clear hb4 HSB
      go_wp2
      go_ret
      exact ⟨rfl, HB.out⟩
    · have HE : Hid (0 = E) := Lib.hid (by rw [← HER.out, if_pos he, if_neg h4])
      have HLZ : Hid (L = QL) := Lib.hid (by rw [← HLE.out, ← HE.out, if_pos rfl])
      have d4 : decide ((4000 : Int) < l.length) = false := decide_eq_false (by omega)
      have HO1 := Lib.hid (HO.out he (by omega))
      obtain rfl : E = 0 := HE.out.symm
      subst he
      clear HO HER HLE HE
      have q0 := HQ.out.cell (i := 0) (v := .int .i64 k) rfl
      have q1 := HQ.out.cell (i := 1) (v := .int .i64 n) rfl
      have q2 := HQ.out.cell (i := 2) (v := .slice A m c) rfl
      go_wp2_with fail
      refine (HO1.out _ HB.out).mono ?_
      rintro r w3 ⟨u3, rfl, hs3, hb3⟩
      have hsl := hs3.sl
      obtain ⟨VA, vc, rfl, -⟩ := id hsl
      have HS3 := Lib.hid hsl
      replace HB := Lib.hid (HB.out.tr hb3)
      replace HS1 := Lib.hid (HS1.out.keep hb3)
      clear hb3 hs3 hsl q0 q1 q2
      go_wp2_with fail
      refine (HBG.out _ HB.out).mono ?_
      rintro r w4 ⟨rfl, hb4⟩
      replace HB := Lib.hid (HB.out.tr hb4)
      have HSB := Lib.hid (sameBools_any QL _ _ w4 (by rw [← HLZ.out]; exact HS1.out.keep hb4) (HS3.out.keep hb4) (by rw [← HLZ.out]; have := HLL.out; omega))
      rw [← HLZ.out] at HSB
      rw [HLZ.out] at HSB ⊢
      clear hb4
      go_wp2_with fail
      refine HSB.out.mono ?_
      rintro r w5 ⟨rfl, hb5⟩
      replace HB := Lib.hid (HB.out.tr hb5)
      clear hb5 HSB
      go_wp2
      go_ret
      exact ⟨rfl, HB.out⟩
  · have HE : Hid (e = E) := Lib.hid (by rw [← HER.out, if_neg he])
    have HLZ : Hid (L = []) := Lib.hid (by rw [← HLE.out, ← HE.out, if_neg he])
    have d0 : (e == 0) = false := by simpa using he
    rw [HLZ.out] at HS1
    rw [HLZ.out]
    obtain rfl : E = e := HE.out.symm
    have hee : (E == E) = true := by simp
    clear HO HER HLE HLZ HE he
    go_wp2_with fail
    refine (HBG.out _ HB.out).mono ?_
    rintro r w3 ⟨rfl, hb3⟩
    replace HB := Lib.hid (HB.out.tr hb3)
    have HSB := Lib.hid (sameBools_any [] _ (.slice none 0 0) w3 (HS1.out.keep hb3) (Sl.nil_ _ _) (by decide))
    clear hb3
    go_wp2_with fail
    refine HSB.out.mono ?_
    rintro r w4 ⟨rfl, hb4⟩
    replace HB := Lib.hid (HB.out.tr hb4)
    clear hb4 HSB
    go_wp2
    go_ret
    exact ⟨rfl, HB.out⟩
end Go.Proofs.YtegknpffiaeohaaDoor
