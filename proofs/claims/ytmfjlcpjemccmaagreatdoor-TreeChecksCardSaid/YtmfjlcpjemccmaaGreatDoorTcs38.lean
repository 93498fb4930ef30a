/- The document's isExpr says which expressions are right: walked. Each lemma states its own conditions. -/
import Derived.Test.YtmfjlcpjemccmaaGreatDoorTcs35
namespace Go.Proofs.YtmfjlcpjemccmaaGreatDoor
open Go.RowKit
theorem two_of {l : List TE} (h : l.length = 2) : ∃ x y, l = [x, y] := by
 match l, h with
 | [x, y], _ => exact ⟨x, y, rfl⟩
theorem all_zero {l : List TE} (h : l.length = 0) : l.all TE.ok = true := by
 rw [List.eq_nil_of_length_eq_zero h]
 rfl
theorem ok_one {e : TE} (h : e.kind = 1) : e.ok = (decide (e.name = emp) && (decide (e.args.length = 0) && decide (-9999999 ≤ e.n ∧ e.n ≤ 9999999))) := by
 rw [TE.ok_eq, h, if_neg (by decide), if_pos rfl, show arityE 1 = 0 from rfl]
 by_cases hl : e.args.length = 0
 ·rw [all_zero hl, hl]
  simp
 ·have : ¬ (0 : Int) = (e.args.length : Int) := by omega
  rw [decide_eq_false this, decide_eq_false hl]
  simp
theorem ok_two {e : TE} (h : e.kind = 2) : e.ok = (decide (e.n = 0) && (decide (e.args.length = 0) && isName e.name)) := by
 rw [TE.ok_eq, h, if_pos (Or.inl rfl), if_neg (by decide), show arityE 2 = 0 from rfl]
 by_cases hl : e.args.length = 0
 ·rw [all_zero hl, hl]
  cases isName e.name <;> cases decide (e.n = 0) <;> rfl
 ·have : ¬ (0 : Int) = (e.args.length : Int) := by omega
  rw [decide_eq_false this, decide_eq_false hl]
  simp
theorem ok_three {e : TE} (h : e.kind = 3) : e.ok = (decide (e.n = 0) && (decide (e.args.length = 1) && (isName e.name && e.args.all TE.ok))) := by
 rw [TE.ok_eq, h, if_pos (Or.inr rfl), if_neg (by decide), show arityE 3 = 1 from rfl]
 by_cases hl : e.args.length = 1
 ·rw [hl]
  cases isName e.name <;> cases decide (e.n = 0) <;> cases e.args.all TE.ok <;> rfl
 ·have : ¬ (1 : Int) = (e.args.length : Int) := by omega
  rw [decide_eq_false this, decide_eq_false hl]
  simp
theorem ok_op {e : TE} (h : 4 ≤ e.kind ∧ e.kind ≤ 10) : e.ok = (decide (e.n = 0) && (decide (e.name = emp) && (decide (e.args.length = 2) && e.args.all TE.ok))) := by
 have ha : arityE e.kind = 2 := by
  unfold arityE
  rw [if_neg (by omega), if_neg (by omega), if_neg (by omega)]
 rw [TE.ok_eq, if_neg (by omega), if_neg (by omega), ha]
 by_cases hl : e.args.length = 2
 ·rw [hl]
  cases decide (e.name = emp) <;> cases decide (e.n = 0) <;> cases e.args.all TE.ok <;> rfl
 ·have : ¬ (2 : Int) = (e.args.length : Int) := by omega
  rw [decide_eq_false this, decide_eq_false hl]
  simp
theorem ok_else {e : TE} (h : e.kind < 1 ∨ 10 < e.kind) : e.ok = false := by
 have ha : arityE e.kind = -1 := by
  unfold arityE
  rw [if_pos h]
 rw [TE.ok_eq, ha]
 have : ¬ (-1 : Int) = (e.args.length : Int) := by omega
 rw [decide_eq_false this]
 rfl
set_option maxRecDepth 20000 in
set_option maxHeartbeats 2000000 in
theorem isExpr_step (e : TE) (IH : ∀ x ∈ e.args, ∀ (val : Value) (W : World), TEV W x val → Calls Tryz.prog 38 #[val] W fun r w' => r = .returned (.bool x.ok) ∧ Bel W w')
  (val : Value) (w : World) (h : TEV w e val) : Calls Tryz.prog 38 #[val] w fun r w' => r = .returned (.bool e.ok) ∧ Bel w w' := by
 obtain ⟨v, rfl, hnm, A, c, rfl, hc, hm, hA⟩ := h
 have HI := Hi_ IH
 have HA := Hi_ hA
 have hlm : e.args.length ≤ 9223372036854775807 := by have := hm.1; simp only [maxLen] at this; omega
 have HIS := Hi_ (fun W => isName_any e.name W hnm)
 have HBK := Hi_ (fun W => between_any e.kind 4 10 W)
 have HBN := Hi_ (fun W => between_any e.n (-9999999) 9999999 W)
 have HB := Hi_ ((Bel.rfl_ w).al (.cells #[.int .i64 e.kind, .int .i64 e.at_, .int .i64 e.n, .string e.name, .slice A e.args.length c] 49))
 have HQ := Hi_ (Blk.new w 49 #[.int .i64 e.kind, .int .i64 e.at_, .int .i64 e.n, .string e.name, .slice A e.args.length c])
 clear IH hA hm hnm
 by_cases k1 : e.kind = 1
 ·have HT := Hi_ (ok_one k1)
  have t1 : (e.kind == 1) = true := by simpa using k1
  by_cases hs_ : e.name = emp
  ·have ds : (e.name.toList == []) = true := lit_true hs_
   rw [decide_eq_true hs_, Bool.true_and] at HT
   by_cases hl_ : e.args.length = 0
   ·have dl : ((e.args.length : Int) == 0) = true := by rw [hl_]; rfl
    rw [decide_eq_true hl_, Bool.true_and] at HT
    clear k1 hs_ hl_
    go_enter Tryz.func38, Tryz.ntmps38
    go_upto_region 1 with fail
    generalize w.alloc (.cells #[.int .i64 e.kind, .int .i64 e.at_, .int .i64 e.n, .string e.name, .slice A e.args.length c] 49) = W0 at *
    generalize w.heap.size = G at *
    have c0 := HQ.out.cell (i := 0) (v := .int .i64 e.kind) rfl
    have c2 := HQ.out.cell (i := 2) (v := .int .i64 e.n) rfl
    have c3 := HQ.out.cell (i := 3) (v := .string e.name) rfl
    have c4 := HQ.out.cell (i := 4) (v := .slice A e.args.length c) rfl
    clear HI HA HIS HBK
    generalize decide (-9999999 ≤ e.n ∧ e.n ≤ 9999999) = b at *
    go_wp2_with fail
    refine (HBN.out _).mono ?_
    rintro r w1 ⟨rfl, rfl⟩
    go_wp2
    go_ret
    exact ⟨by first | (rw [HT.out]; rfl) | rfl, HB.out⟩
   ·have dl : ((e.args.length : Int) == 0) = false := by rw [beq_eq_false_iff_ne]; omega
    rw [decide_eq_false hl_, Bool.false_and] at HT
    clear k1 hs_ hl_
    go_enter Tryz.func38, Tryz.ntmps38
    go_upto_region 1 with fail
    generalize w.alloc (.cells #[.int .i64 e.kind, .int .i64 e.at_, .int .i64 e.n, .string e.name, .slice A e.args.length c] 49) = W0 at *
    generalize w.heap.size = G at *
    have c0 := HQ.out.cell (i := 0) (v := .int .i64 e.kind) rfl
    have c2 := HQ.out.cell (i := 2) (v := .int .i64 e.n) rfl
    have c3 := HQ.out.cell (i := 3) (v := .string e.name) rfl
    have c4 := HQ.out.cell (i := 4) (v := .slice A e.args.length c) rfl
    clear HI HA HIS HBN HBK
    go_wp2
    go_ret
    exact ⟨by first | (rw [HT.out]; rfl) | rfl, HB.out⟩
  ·have ds : (e.name.toList == []) = false := lit_false hs_
   rw [decide_eq_false hs_, Bool.false_and] at HT
   clear k1 hs_
   go_enter Tryz.func38, Tryz.ntmps38
   go_upto_region 1 with fail
   generalize w.alloc (.cells #[.int .i64 e.kind, .int .i64 e.at_, .int .i64 e.n, .string e.name, .slice A e.args.length c] 49) = W0 at *
   generalize w.heap.size = G at *
   have c0 := HQ.out.cell (i := 0) (v := .int .i64 e.kind) rfl
   have c2 := HQ.out.cell (i := 2) (v := .int .i64 e.n) rfl
   have c3 := HQ.out.cell (i := 3) (v := .string e.name) rfl
   have c4 := HQ.out.cell (i := 4) (v := .slice A e.args.length c) rfl
   clear HI HA HIS HBN HBK
   go_wp2
   go_ret
   exact ⟨by first | (rw [HT.out]; rfl) | rfl, HB.out⟩
 by_cases k2 : e.kind = 2
 ·have HT := Hi_ (ok_two k2)
  have t1 : (e.kind == 1) = false := by simpa using k1
  have t2 : (e.kind == 2) = true := by simpa using k2
  by_cases hn_ : e.n = 0
  ·have dn : (e.n == 0) = true := by simpa using hn_
   rw [decide_eq_true hn_, Bool.true_and] at HT
   by_cases hl_ : e.args.length = 0
   ·have dl : ((e.args.length : Int) == 0) = true := by rw [hl_]; rfl
    rw [decide_eq_true hl_, Bool.true_and] at HT
    clear k1 k2 hn_ hl_
    go_enter Tryz.func38, Tryz.ntmps38
    go_upto_region 1 with fail
    generalize w.alloc (.cells #[.int .i64 e.kind, .int .i64 e.at_, .int .i64 e.n, .string e.name, .slice A e.args.length c] 49) = W0 at *
    generalize w.heap.size = G at *
    have c0 := HQ.out.cell (i := 0) (v := .int .i64 e.kind) rfl
    have c2 := HQ.out.cell (i := 2) (v := .int .i64 e.n) rfl
    have c3 := HQ.out.cell (i := 3) (v := .string e.name) rfl
    have c4 := HQ.out.cell (i := 4) (v := .slice A e.args.length c) rfl
    clear HI HA HBN HBK
    generalize isName e.name = b at *
    go_wp2_with fail
    refine (HIS.out _).mono ?_
    rintro r w1 ⟨rfl, hb⟩
    have HB1 := Hi_ (HB.out.tr hb)
    clear hb
    go_wp2
    go_ret
    exact ⟨by first | (rw [HT.out]; rfl) | rfl, HB1.out⟩
   ·have dl : ((e.args.length : Int) == 0) = false := by rw [beq_eq_false_iff_ne]; omega
    rw [decide_eq_false hl_, Bool.false_and] at HT
    clear k1 k2 hn_ hl_
    go_enter Tryz.func38, Tryz.ntmps38
    go_upto_region 1 with fail
    generalize w.alloc (.cells #[.int .i64 e.kind, .int .i64 e.at_, .int .i64 e.n, .string e.name, .slice A e.args.length c] 49) = W0 at *
    generalize w.heap.size = G at *
    have c0 := HQ.out.cell (i := 0) (v := .int .i64 e.kind) rfl
    have c2 := HQ.out.cell (i := 2) (v := .int .i64 e.n) rfl
    have c3 := HQ.out.cell (i := 3) (v := .string e.name) rfl
    have c4 := HQ.out.cell (i := 4) (v := .slice A e.args.length c) rfl
    clear HI HA HIS HBN HBK
    go_wp2
    go_ret
    exact ⟨by first | (rw [HT.out]; rfl) | rfl, HB.out⟩
  ·have dn : (e.n == 0) = false := by simpa using hn_
   rw [decide_eq_false hn_, Bool.false_and] at HT
   clear k1 k2 hn_
   go_enter Tryz.func38, Tryz.ntmps38
   go_upto_region 1 with fail
   generalize w.alloc (.cells #[.int .i64 e.kind, .int .i64 e.at_, .int .i64 e.n, .string e.name, .slice A e.args.length c] 49) = W0 at *
   generalize w.heap.size = G at *
   have c0 := HQ.out.cell (i := 0) (v := .int .i64 e.kind) rfl
   have c2 := HQ.out.cell (i := 2) (v := .int .i64 e.n) rfl
   have c3 := HQ.out.cell (i := 3) (v := .string e.name) rfl
   have c4 := HQ.out.cell (i := 4) (v := .slice A e.args.length c) rfl
   clear HI HA HIS HBN HBK
   go_wp2
   go_ret
   exact ⟨by first | (rw [HT.out]; rfl) | rfl, HB.out⟩
 by_cases k3 : e.kind = 3
 ·have HT := Hi_ (ok_three k3)
  have t1 : (e.kind == 1) = false := by simpa using k1
  have t2 : (e.kind == 2) = false := by simpa using k2
  have t3 : (e.kind == 3) = true := by simpa using k3
  by_cases hn_ : e.n = 0
  ·have dn : (e.n == 0) = true := by simpa using hn_
   rw [decide_eq_true hn_, Bool.true_and] at HT
   by_cases hl_ : e.args.length = 1
   ·have dl : ((e.args.length : Int) == 1) = true := by rw [hl_]; rfl
    rw [decide_eq_true hl_, Bool.true_and] at HT
    cases hi : isName e.name with
    | false =>
     rw [hi, Bool.false_and] at HT
     rw [hi] at HIS
     clear hi k1 k2 k3 hn_ hl_
     go_enter Tryz.func38, Tryz.ntmps38
     go_upto_region 1 with fail
     generalize w.alloc (.cells #[.int .i64 e.kind, .int .i64 e.at_, .int .i64 e.n, .string e.name, .slice A e.args.length c] 49) = W0 at *
     generalize w.heap.size = G at *
     have c0 := HQ.out.cell (i := 0) (v := .int .i64 e.kind) rfl
     have c2 := HQ.out.cell (i := 2) (v := .int .i64 e.n) rfl
     have c3 := HQ.out.cell (i := 3) (v := .string e.name) rfl
     have c4 := HQ.out.cell (i := 4) (v := .slice A e.args.length c) rfl
     clear HI HA HBN HBK
     go_wp2_with fail
     refine (HIS.out _).mono ?_
     rintro r w1 ⟨rfl, hb⟩
     have HB1 := Hi_ (HB.out.tr hb)
     clear hb
     go_wp2
     go_ret
     exact ⟨by first | (rw [HT.out]; rfl) | rfl, HB1.out⟩
    | true =>
     rw [hi, Bool.true_and] at HT
     rw [hi] at HIS
     obtain ⟨x0, hx⟩ : ∃ x, e.args = [x] := List.length_eq_one_iff.1 hl_
     obtain ⟨b, o, rfl, hA⟩ := HA.out (by omega)
     obtain ⟨B0, m0, cc0, hs0, hq0, y0, y1, y2, y3, y4⟩ := teR.cells hA (k := 0) (x := x0) (by rw [hx]; rfl)
     have HS0 := Hi_ hs0
     have HI0 := Hi_ (HI.out x0 (by rw [hx]; exact List.mem_singleton.2 rfl))
     have HT2 : Hid (e.ok = x0.ok) := Hi_ (by rw [HT.out, hx]; simp)
     have HQ0 := Hi_ hq0
     clear HI HA hA hs0 hq0 HT hi HBN HBK k1 k2 k3 hn_ hx
     rw [hl_] at hlm dl HB HQ ⊢
     go_enter Tryz.func38, Tryz.ntmps38
     go_upto_region 1 with fail
     generalize w.alloc (.cells #[.int .i64 e.kind, .int .i64 e.at_, .int .i64 e.n, .string e.name, .slice (some ⟨b, o, none⟩) 1 c] 49) = W0 at *
     generalize w.heap.size = G at *
     have c0 := HQ.out.cell (i := 0) (v := .int .i64 e.kind) rfl
     have c2 := HQ.out.cell (i := 2) (v := .int .i64 e.n) rfl
     have c3 := HQ.out.cell (i := 3) (v := .string e.name) rfl
     have c4 := HQ.out.cell (i := 4) (v := .slice (some ⟨b, o, none⟩) 1 c) rfl
     go_wp2_with fail
     refine (HIS.out _).mono ?_
     rintro r w1 ⟨rfl, hb⟩
     have HB1 := Hi_ (HB.out.tr hb)
     replace HQ := Hi_ (HQ.out.keep hb)
     clear hb c0 c2 c3 c4
     have c4 := HQ.out.cell (i := 4) (v := .slice (some ⟨b, o, none⟩) 1 c) rfl
     have z0 : w1.cell? ⟨b, o, none⟩ = some (.int .i64 x0.kind) := by simpa using HB1.out.cell y0
     have z1 : w1.cell? ⟨b, o + 1, none⟩ = some (.int .i64 x0.at_) := by simpa using HB1.out.cell y1
     have z2 : w1.cell? ⟨b, o + 2, none⟩ = some (.int .i64 x0.n) := by simpa using HB1.out.cell y2
     have z3 : w1.cell? ⟨b, o + 3, none⟩ = some (.string x0.name) := by simpa using HB1.out.cell y3
     have z4 : w1.cell? ⟨b, o + 4, none⟩ = some (.slice B0 m0 cc0) := by simpa using HB1.out.cell y4
     have HV0 : Hid (TEV w1 x0 (.agg #[.int .i64 x0.kind, .int .i64 x0.at_, .int .i64 x0.n, .string x0.name, .slice B0 m0 cc0])) := Hi_ ⟨_, rfl, HQ0.out, HS0.out.keep HB1.out⟩
     clear y0 y1 y2 y3 y4 HIS
     go_wp2_with fail
     refine (HI0.out _ _ HV0.out).mono ?_
     rintro r w2 ⟨rfl, hb⟩
     replace HB1 := Hi_ (HB1.out.tr hb)
     clear hb
     go_wp2
     go_ret
     exact ⟨by rw [HT2.out]; rfl, HB1.out⟩
   ·have dl : ((e.args.length : Int) == 1) = false := by rw [beq_eq_false_iff_ne]; omega
    rw [decide_eq_false hl_, Bool.false_and] at HT
    clear k1 k2 k3 hn_ hl_
    go_enter Tryz.func38, Tryz.ntmps38
    go_upto_region 1 with fail
    generalize w.alloc (.cells #[.int .i64 e.kind, .int .i64 e.at_, .int .i64 e.n, .string e.name, .slice A e.args.length c] 49) = W0 at *
    generalize w.heap.size = G at *
    have c0 := HQ.out.cell (i := 0) (v := .int .i64 e.kind) rfl
    have c2 := HQ.out.cell (i := 2) (v := .int .i64 e.n) rfl
    have c3 := HQ.out.cell (i := 3) (v := .string e.name) rfl
    have c4 := HQ.out.cell (i := 4) (v := .slice A e.args.length c) rfl
    clear HI HA HIS HBN HBK
    go_wp2
    go_ret
    exact ⟨by first | (rw [HT.out]; rfl) | rfl, HB.out⟩
  ·have dn : (e.n == 0) = false := by simpa using hn_
   rw [decide_eq_false hn_, Bool.false_and] at HT
   clear k1 k2 k3 hn_
   go_enter Tryz.func38, Tryz.ntmps38
   go_upto_region 1 with fail
   generalize w.alloc (.cells #[.int .i64 e.kind, .int .i64 e.at_, .int .i64 e.n, .string e.name, .slice A e.args.length c] 49) = W0 at *
   generalize w.heap.size = G at *
   have c0 := HQ.out.cell (i := 0) (v := .int .i64 e.kind) rfl
   have c2 := HQ.out.cell (i := 2) (v := .int .i64 e.n) rfl
   have c3 := HQ.out.cell (i := 3) (v := .string e.name) rfl
   have c4 := HQ.out.cell (i := 4) (v := .slice A e.args.length c) rfl
   clear HI HA HIS HBN HBK
   go_wp2
   go_ret
   exact ⟨by first | (rw [HT.out]; rfl) | rfl, HB.out⟩
 have t1 : (e.kind == 1) = false := by simpa using k1
 have t2 : (e.kind == 2) = false := by simpa using k2
 have t3 : (e.kind == 3) = false := by simpa using k3
 by_cases k4 : 4 ≤ e.kind ∧ e.kind ≤ 10
 ·have HT := Hi_ (ok_op k4)
  rw [decide_eq_true k4] at HBK
  by_cases hn_ : e.n = 0
  ·have dn : (e.n == 0) = true := by simpa using hn_
   rw [decide_eq_true hn_, Bool.true_and] at HT
   by_cases hs_ : e.name = emp
   ·have ds : (e.name.toList == []) = true := lit_true hs_
    rw [decide_eq_true hs_, Bool.true_and] at HT
    by_cases hl_ : e.args.length = 2
    ·have dl : ((e.args.length : Int) == 2) = true := by rw [hl_]; rfl
     rw [decide_eq_true hl_, Bool.true_and] at HT
     obtain ⟨x0, x1, hx⟩ : ∃ x y, e.args = [x, y] := two_of hl_
     obtain ⟨b, o, rfl, hA⟩ := HA.out (by omega)
     obtain ⟨B0, m0, cc0, hs0, hq0, y00, y01, y02, y03, y04⟩ := teR.cells hA (k := 0) (x := x0) (by rw [hx]; rfl)
     obtain ⟨B1, m1, cc1, hs1, hq1, y10, y11, y12, y13, y14⟩ := teR.cells hA (k := 1) (x := x1) (by rw [hx]; rfl)
     have HI0 := Hi_ (HI.out x0 (by rw [hx]; simp))
     have HI1 := Hi_ (HI.out x1 (by rw [hx]; simp))
     have HT2 : Hid (e.ok = (x0.ok && x1.ok)) := Hi_ (by rw [HT.out, hx]; simp)
     have HVA : Hid (∀ W, Bel w W → TEV W x0 (.agg #[.int .i64 x0.kind, .int .i64 x0.at_, .int .i64 x0.n, .string x0.name, .slice B0 m0 cc0]) ∧ TEV W x1 (.agg #[.int .i64 x1.kind, .int .i64 x1.at_, .int .i64 x1.n, .string x1.name, .slice B1 m1 cc1])) := Hi_ fun W hb => ⟨⟨_, rfl, hq0, hs0.keep hb⟩, ⟨_, rfl, hq1, hs1.keep hb⟩⟩
     clear HI HA hA hs0 hq0 hs1 hq1 HT HBN HIS k1 k2 k3 k4 hn_ hs_ hx
     rw [hl_] at hlm dl HB HQ ⊢
     go_enter Tryz.func38, Tryz.ntmps38
     go_upto_region 1 with fail
     generalize w.alloc (.cells #[.int .i64 e.kind, .int .i64 e.at_, .int .i64 e.n, .string e.name, .slice (some ⟨b, o, none⟩) 2 c] 49) = W0 at *
     generalize w.heap.size = G at *
     have c0 := HQ.out.cell (i := 0) (v := .int .i64 e.kind) rfl
     have c2 := HQ.out.cell (i := 2) (v := .int .i64 e.n) rfl
     have c3 := HQ.out.cell (i := 3) (v := .string e.name) rfl
     have c4 := HQ.out.cell (i := 4) (v := .slice (some ⟨b, o, none⟩) 2 c) rfl
     go_wp2_with fail
     refine (HBK.out _).mono ?_
     rintro r w1 ⟨rfl, rfl⟩
     clear HBK
     have z00 : W0.cell? ⟨b, o, none⟩ = some (.int .i64 x0.kind) := by simpa [Nat.add_assoc] using HB.out.cell y00
     have z01 : W0.cell? ⟨b, o + 1, none⟩ = some (.int .i64 x0.at_) := by simpa [Nat.add_assoc] using HB.out.cell y01
     have z02 : W0.cell? ⟨b, o + 2, none⟩ = some (.int .i64 x0.n) := by simpa [Nat.add_assoc] using HB.out.cell y02
     have z03 : W0.cell? ⟨b, o + 3, none⟩ = some (.string x0.name) := by simpa [Nat.add_assoc] using HB.out.cell y03
     have z04 : W0.cell? ⟨b, o + 4, none⟩ = some (.slice B0 m0 cc0) := by simpa [Nat.add_assoc] using HB.out.cell y04
     go_wp2_with fail
     refine (HI0.out _ _ (HVA.out _ HB.out).1).mono ?_
     rintro r w2 ⟨rfl, hb⟩
     have HB1 := Hi_ (HB.out.tr hb)
     replace HQ := Hi_ (HQ.out.keep hb)
     clear hb c0 c2 c3 c4 z00 z01 z02 z03 z04
     cases hk : x0.ok with
     | false =>
      rw [hk, Bool.false_and] at HT2
      clear hk
      go_wp2
      go_ret
      exact ⟨by rw [HT2.out]; rfl, HB1.out⟩
     | true =>
      rw [hk, Bool.true_and] at HT2
      clear hk
      have c4 := HQ.out.cell (i := 4) (v := .slice (some ⟨b, o, none⟩) 2 c) rfl
      have z10 : w2.cell? ⟨b, o + 5, none⟩ = some (.int .i64 x1.kind) := by simpa [Nat.add_assoc] using HB1.out.cell y10
      have z11 : w2.cell? ⟨b, o + 6, none⟩ = some (.int .i64 x1.at_) := by simpa [Nat.add_assoc] using HB1.out.cell y11
      have z12 : w2.cell? ⟨b, o + 7, none⟩ = some (.int .i64 x1.n) := by simpa [Nat.add_assoc] using HB1.out.cell y12
      have z13 : w2.cell? ⟨b, o + 8, none⟩ = some (.string x1.name) := by simpa [Nat.add_assoc] using HB1.out.cell y13
      have z14 : w2.cell? ⟨b, o + 9, none⟩ = some (.slice B1 m1 cc1) := by simpa [Nat.add_assoc] using HB1.out.cell y14
      go_wp2_with fail
      refine (HI1.out _ _ (HVA.out _ HB1.out).2).mono ?_
      rintro r w3 ⟨rfl, hb⟩
      replace HB1 := Hi_ (HB1.out.tr hb)
      clear hb
      go_wp2
      go_ret
      exact ⟨by rw [HT2.out]; rfl, HB1.out⟩
    ·have dl : ((e.args.length : Int) == 2) = false := by rw [beq_eq_false_iff_ne]; omega
     rw [decide_eq_false hl_, Bool.false_and] at HT
     clear k1 k2 k3 k4 hn_ hs_ hl_
     go_enter Tryz.func38, Tryz.ntmps38
     go_upto_region 1 with fail
     generalize w.alloc (.cells #[.int .i64 e.kind, .int .i64 e.at_, .int .i64 e.n, .string e.name, .slice A e.args.length c] 49) = W0 at *
     generalize w.heap.size = G at *
     have c0 := HQ.out.cell (i := 0) (v := .int .i64 e.kind) rfl
     have c2 := HQ.out.cell (i := 2) (v := .int .i64 e.n) rfl
     have c3 := HQ.out.cell (i := 3) (v := .string e.name) rfl
     have c4 := HQ.out.cell (i := 4) (v := .slice A e.args.length c) rfl
     go_wp2_with fail
     refine (HBK.out _).mono ?_
     rintro r w1 ⟨rfl, rfl⟩
     clear HBK
     clear HI HA HIS HBN
     go_wp2
     go_ret
     exact ⟨by first | (rw [HT.out]; rfl) | rfl, HB.out⟩
   ·have ds : (e.name.toList == []) = false := lit_false hs_
    rw [decide_eq_false hs_, Bool.false_and] at HT
    clear k1 k2 k3 k4 hn_ hs_
    go_enter Tryz.func38, Tryz.ntmps38
    go_upto_region 1 with fail
    generalize w.alloc (.cells #[.int .i64 e.kind, .int .i64 e.at_, .int .i64 e.n, .string e.name, .slice A e.args.length c] 49) = W0 at *
    generalize w.heap.size = G at *
    have c0 := HQ.out.cell (i := 0) (v := .int .i64 e.kind) rfl
    have c2 := HQ.out.cell (i := 2) (v := .int .i64 e.n) rfl
    have c3 := HQ.out.cell (i := 3) (v := .string e.name) rfl
    have c4 := HQ.out.cell (i := 4) (v := .slice A e.args.length c) rfl
    go_wp2_with fail
    refine (HBK.out _).mono ?_
    rintro r w1 ⟨rfl, rfl⟩
    clear HBK
    clear HI HA HIS HBN
    go_wp2
    go_ret
    exact ⟨by first | (rw [HT.out]; rfl) | rfl, HB.out⟩
  ·have dn : (e.n == 0) = false := by simpa using hn_
   rw [decide_eq_false hn_, Bool.false_and] at HT
   clear k1 k2 k3 k4 hn_
   go_enter Tryz.func38, Tryz.ntmps38
   go_upto_region 1 with fail
   generalize w.alloc (.cells #[.int .i64 e.kind, .int .i64 e.at_, .int .i64 e.n, .string e.name, .slice A e.args.length c] 49) = W0 at *
   generalize w.heap.size = G at *
   have c0 := HQ.out.cell (i := 0) (v := .int .i64 e.kind) rfl
   have c2 := HQ.out.cell (i := 2) (v := .int .i64 e.n) rfl
   have c3 := HQ.out.cell (i := 3) (v := .string e.name) rfl
   have c4 := HQ.out.cell (i := 4) (v := .slice A e.args.length c) rfl
   go_wp2_with fail
   refine (HBK.out _).mono ?_
   rintro r w1 ⟨rfl, rfl⟩
   clear HBK
   clear HI HA HIS HBN
   go_wp2
   go_ret
   exact ⟨by first | (rw [HT.out]; rfl) | rfl, HB.out⟩
 ·have HT := Hi_ (ok_else (e := e) (by omega))
  rw [decide_eq_false k4] at HBK
  clear k1 k2 k3 k4
  generalize e.ok = T at *
  generalize e.kind = k at *
  go_enter Tryz.func38, Tryz.ntmps38
  go_upto_region 1 with fail
  go_wp2_with fail
  refine (HBK.out _).mono ?_
  rintro r w1 ⟨rfl, rfl⟩
  go_wp2
  go_ret
  exact ⟨by first | (rw [HT.out]; rfl) | rfl, HB.out⟩
theorem isExpr_any : ∀ (e : TE) (val : Value) (w : World), TEV w e val → Calls Tryz.prog 38 #[val] w fun r w' => r = .returned (.bool e.ok) ∧ Bel w w' :=
 TE.ind fun k a n s args ih val w h => isExpr_step (.mk k a n s args) ih val w h
end Go.Proofs.YtmfjlcpjemccmaaGreatDoor
