/- Is an expression of a tree right, by the program: walked. Each lemma states its own conditions. -/
import Derived.Test.YtmfjlcpjemccmaaGreatDoorTts18
import Derived.Test.YtmfjlcpjemccmaaGreatDoorTts38
import Derived.Test.YtmfjlcpjemccmaaGreatDoorTts35
namespace Go.Proofs.YtmfjlcpjemccmaaGreatDoor
open Go.RowKit
set_option maxRecDepth 20000 in
theorem argsK_any (k : Int) (w : World) : Calls Tryz.prog 189 #[.int .i64 k] w fun r w' => r = .returned (.int .i64 (arityE k)) ∧ w' = w := by
 by_cases h1 : k < 1
 ·have hT : arityE k = -1 := by unfold arityE; rw [if_pos (Or.inl h1)]
  have d1 : decide (k < 1) = true := decide_eq_true h1
  generalize arityE k = T at *
  subst hT
  go_enter Tryz.func189, Tryz.ntmps189
  go_wp2
  go_ret
  exact ⟨rfl, rfl⟩
 have d1 : decide (k < 1) = false := decide_eq_false h1
 by_cases h2 : 10 < k
 ·have hT : arityE k = -1 := by unfold arityE; rw [if_pos (Or.inr h2)]
  have d2 : decide (10 < k) = true := decide_eq_true h2
  generalize arityE k = T at *
  subst hT
  go_enter Tryz.func189, Tryz.ntmps189
  go_wp2
  go_ret
  exact ⟨rfl, rfl⟩
 have d2 : decide (10 < k) = false := decide_eq_false h2
 by_cases h3 : k ≤ 2
 ·have hT : arityE k = 0 := by unfold arityE; rw [if_neg (by omega), if_pos h3]
  have d3 : decide (k ≤ 2) = true := decide_eq_true h3
  generalize arityE k = T at *
  subst hT
  go_enter Tryz.func189, Tryz.ntmps189
  go_wp2
  go_ret
  exact ⟨rfl, rfl⟩
 have d3 : decide (k ≤ 2) = false := decide_eq_false h3
 by_cases h4 : k = 3
 ·subst h4
  go_enter Tryz.func189, Tryz.ntmps189
  go_wp2
  go_ret
  exact ⟨rfl, rfl⟩
 have hT : arityE k = 2 := by unfold arityE; rw [if_neg (by omega), if_neg h3, if_neg h4]
 have d4 : (k == 3) = false := by simpa using h4
 generalize arityE k = T at *
 subst hT
 go_enter Tryz.func189, Tryz.ntmps189
 go_wp2
 go_ret
 exact ⟨rfl, rfl⟩
set_option maxRecDepth 20000 in
theorem notExpr (G : FuncId) (hG : G = 190 ∨ G = 193) (x : TE) (IH : ∀ (val : Value) (W : World), TEV W x val → Calls Tryz.prog 150 #[val] W fun r w' => r = .returned (.bool x.ok) ∧ Bel W w')
  (cs : List Value) (w : World) (h : TER w x cs) : Calls Tryz.prog G #[.agg cs.toArray] w fun r w' => r = .returned (.bool (!x.ok)) ∧ Bel w w' := by
 have HI := Hi_ (fun W (hb : Bel w W) => IH _ W ((TER.tev h).keep hb))
 obtain ⟨k, a, n, s, args⟩ := x
 obtain ⟨v, rfl, -, A, c, rfl, -⟩ := TER.opened h
 generalize (TE.mk k a n s args).ok = T at *
 have HB := Hi_ ((Bel.rfl_ w).al (.cells #[.int .i64 k, .int .i64 a, .int .i64 n, .string s, .slice A args.length c] 49))
 clear IH h
 rcases hG with rfl | rfl
 ·go_enter Tryz.func190, Tryz.ntmps190
  go_wp2_with fail
  refine (HI.out _ HB.out).mono ?_
  rintro r w1 ⟨rfl, hb⟩
  go_wp2
  go_ret
  exact ⟨rfl, HB.out.tr hb⟩
 ·go_enter Tryz.func193, Tryz.ntmps193
  go_wp2_with fail
  refine (HI.out _ HB.out).mono ?_
  rintro r w1 ⟨rfl, hb⟩
  go_wp2
  go_ret
  exact ⟨rfl, HB.out.tr hb⟩
theorem any_not {α : Type} (l : List α) (p : α → Bool) : (l.any fun x => !p x) = !l.all p := by
 induction l with
 | nil => rfl
 | cons x xs ih => rw [List.any_cons, List.all_cons, ih, Bool.not_and]
set_option maxRecDepth 20000 in
set_option maxHeartbeats 4000000 in
theorem expr_step (k a n : Int) (s : ByteArray) (args : List TE) (IH : ∀ x ∈ args, ∀ (val : Value) (W : World), TEV W x val → Calls Tryz.prog 150 #[val] W fun r w' => r = .returned (.bool x.ok) ∧ Bel W w')
  (val : Value) (w : World) (h : TEV w (.mk k a n s args) val) : Calls Tryz.prog 150 #[val] w fun r w' => r = .returned (.bool (TE.mk k a n s args).ok) ∧ Bel w w' := by
 obtain ⟨v, rfl, hnm, sv⟩ := h
 simp only [TE.kind, TE.at_, TE.n, TE.name, TE.args] at hnm sv ⊢
 have HAL := Hi_ (fun W (hb : Bel w W) => contains_expr (fun x => !x.ok) args v W (sv.keep hb) fun x hx cs W h => notExpr _ (Or.inl rfl) x (IH x hx) cs W h)
 have HAR := Hi_ (fun W => argsK_any k W)
 have HNM := Hi_ (fun W => tname_any s W hnm)
 obtain ⟨A, c, rfl, hc1, hc2, -⟩ := sv
 have hll : args.length ≤ 9223372036854775807 := by have := hc2.1; simp only [maxLen] at this; omega
 obtain ⟨CB, hCB⟩ : ∃ CB, (decide (arityE k = (args.length : Int)) && ((if k = 2 ∨ k = 3 then isName s else decide (s = emp)) && (decide (k = 1) || decide (n = 0)))) = CB := ⟨_, rfl⟩
 have HCE := Hi_ hCB
 have HT : Hid ((CB && ((!(decide (k = 1)) || decide (-9999999 ≤ n ∧ n ≤ 9999999)) && args.all TE.ok)) = (TE.mk k a n s args).ok) := Hi_ (by
  rw [← hCB, TE.ok, okEs_all]
  by_cases h1 : k = 1
  ·subst h1
   simp [Bool.and_assoc]
  ·rw [if_neg h1, decide_eq_false h1]
   simp [Bool.and_assoc])
 rw [any_not] at HAL
 generalize (TE.mk k a n s args).ok = T at *
 generalize args.all TE.ok = ba at *
 have hks : isName s = true → s ≠ emp := fun h e => by rw [e, isName_emp] at h; cases h
 have hdS := str_eq s emp
 generalize isName s = bn at *
 generalize arityE k = AR at *
 have HB := Hi_ ((Bel.rfl_ w).al (.cells #[.int .i64 k, .int .i64 a, .int .i64 n, .string s, .slice A args.length c] 49))
 have HK := Hi_ (Blk.new w 49 #[.int .i64 k, .int .i64 a, .int .i64 n, .string s, .slice A args.length c])
 clear hnm hc1 hc2 IH hCB
 go_enter Tryz.func150, Tryz.ntmps150
 go_upto_region 1 with fail
 generalize w.alloc (.cells #[.int .i64 k, .int .i64 a, .int .i64 n, .string s, .slice A args.length c] 49) = WB at *
 generalize w.heap.size = G at *
 have c0 := HK.out.cell (i := 0) (v := .int .i64 k) rfl
 obtain ⟨nm, hnm⟩ : ∃ nm, decide (k = 2 ∨ k = 3) = nm := ⟨_, rfl⟩
 go_cut [3] from 4 to 11 (fun u wx => u = .bool nm ∧ WB = wx)
 case first =>
  by_cases h2 : k = 2
  ·have d2 : (k == 2) = true := by simpa using h2
   have hn : nm = true := by rw [← hnm]; exact decide_eq_true (Or.inl h2)
   go_wp2
   go_meet
   exact ⟨by rw [hn], rfl⟩
  have d2 : (k == 2) = false := by simpa using h2
  by_cases h3 : k = 3
  ·have d3 : (k == 3) = true := by simpa using h3
   have hn : nm = true := by rw [← hnm]; exact decide_eq_true (Or.inr h3)
   go_wp2
   go_meet
   exact ⟨by rw [hn], rfl⟩
  have d3 : (k == 3) = false := by simpa using h3
  have hn : nm = false := by rw [← hnm]; exact decide_eq_false (by omega)
  go_wp2
  go_meet
  exact ⟨by rw [hn], rfl⟩
 obtain ⟨rfl, rfl⟩ := hcut
 have HNM2 := Hi_ hnm
 clear hnm c0
 go_upto_region 2 with fail
 go_cut [44] from 12 to 44 (fun u wx => u = .bool (!CB) ∧ Hid (Bel WB wx))
 case first =>
  cases nm with
  | true =>
   have h2 : k = 2 ∨ k = 3 := of_decide_eq_true HNM2.out
   have hn1 : k ≠ 1 := by omega
   have dK : (k != 1) = true := by simpa using hn1
   by_cases hA : AR = (args.length : Int)
   rotate_left
   ·have dA : (AR != (args.length : Int)) = true := by simpa using hA
    have HCB : CB = false := by rw [← HCE.out, decide_eq_false hA, Bool.false_and]
    clear h2 hn1
    refine wp_region_held_drew (S := fun W => Bel WB W) (by kernel_rfl) ((Bel.rfl_ WB).dr) (fun hS => ?_)
    refine rt_t (i := 0) (some 12) (.pointer (some ⟨G, 0, none⟩)) rfl hS (fun W _ => by kernel_rfl) ?_
    refine rt_t (i := 1) (some 13) (.int .i64 k) rfl hS (fun W hb => rl_int_ ((HK.out.keep hb).cell (i := 0) (v := .int .i64 k) rfl)) ?_
    refine rt_t (i := 3) (some 15) (.pointer (some ⟨G, 4, none⟩)) rfl hS (fun W _ => by kernel_rfl) ?_
    refine rt_t (i := 4) (some 16) (.slice A args.length c) rfl hS (fun W hb => rl_es_ ((HK.out.keep hb).cell (i := 4) (v := .slice A args.length c) rfl)) ?_
    refine rt_t (i := 5) (some 17) (.int .i64 args.length) rfl hS (fun W _ => by kernel_rfl) ?_
    refine rt_call (i := 2) (some 14) (by kernel_rfl) rfl rfl (by kernel_rfl) 189 #[.int .i64 k] (by kernel_rfl) (HAR.out _) ?_
    rintro e W' ⟨rfl, rfl⟩
    refine ⟨_, rfl, hS, fun hS => ?_⟩
    refine rt_t (i := 6) (some 18) (.bool true) rfl hS (fun W _ => rb_neqI rfl (by kernel_rfl) (by kernel_rfl) dA) ?_
    refine rt_t (i := 7) (some 19) (.bool true) rfl hS (fun W _ => by kernel_rfl) ?_
    refine rt_skip (i := 8) (some 20) rfl rfl (by kernel_rfl) (by kernel_rfl) (by kernel_rfl) (fun _ _ _ h => h) (by kernel_rfl) hS ?_
    refine rt_skip (i := 9) (some 21) rfl rfl (by kernel_rfl) (by kernel_rfl) (by kernel_rfl) (fun _ _ _ h => h) (by kernel_rfl) hS ?_
    refine rt_skip (i := 10) (some 22) rfl rfl (by kernel_rfl) (by kernel_rfl) (by kernel_rfl) (fun _ _ _ h => h) (by kernel_rfl) hS ?_
    refine rt_skip (i := 11) (some 23) rfl rfl (by kernel_rfl) (by kernel_rfl) (by kernel_rfl) (fun _ _ _ h => h) (by kernel_rfl) hS ?_
    refine rt_skip (i := 12) (some 24) rfl rfl (by kernel_rfl) (by kernel_rfl) (by kernel_rfl) (fun _ _ _ h => h) (by kernel_rfl) hS ?_
    refine rt_t (i := 13) (some 25) (.bool true) rfl hS (fun W _ => by kernel_rfl) ?_
    refine rt_t (i := 14) (some 26) (.bool true) rfl hS (fun W _ => by kernel_rfl) ?_
    refine rt_skip (i := 15) (some 27) rfl rfl (by kernel_rfl) (by kernel_rfl) (by kernel_rfl) (fun _ _ _ h => h) (by kernel_rfl) hS ?_
    refine rt_skip (i := 16) (some 28) rfl rfl (by kernel_rfl) (by kernel_rfl) (by kernel_rfl) (fun _ _ _ h => h) (by kernel_rfl) hS ?_
    refine rt_skip (i := 17) (some 29) rfl rfl (by kernel_rfl) (by kernel_rfl) (by kernel_rfl) (fun _ _ _ h => h) (by kernel_rfl) hS ?_
    refine rt_skip (i := 18) (some 30) rfl rfl (by kernel_rfl) (by kernel_rfl) (by kernel_rfl) (fun _ _ _ h => h) (by kernel_rfl) hS ?_
    refine rt_skip (i := 19) (some 31) rfl rfl (by kernel_rfl) (by kernel_rfl) (by kernel_rfl) (fun _ _ _ h => h) (by kernel_rfl) hS ?_
    refine rt_skip (i := 20) (some 32) rfl rfl (by kernel_rfl) (by kernel_rfl) (by kernel_rfl) (fun _ _ _ h => h) (by kernel_rfl) hS ?_
    refine rt_skip (i := 21) (some 33) rfl rfl (by kernel_rfl) (by kernel_rfl) (by kernel_rfl) (fun _ _ _ h => h) (by kernel_rfl) hS ?_
    refine rt_t (i := 22) (some 34) (.bool true) rfl hS (fun W _ => by kernel_rfl) ?_
    refine rt_t (i := 23) (some 35) (.bool true) rfl hS (fun W _ => by kernel_rfl) ?_
    refine rt_skip (i := 24) (some 36) rfl rfl (by kernel_rfl) (by kernel_rfl) (by kernel_rfl) (fun _ _ _ h => h) (by kernel_rfl) hS ?_
    refine rt_skip (i := 25) (some 37) rfl rfl (by kernel_rfl) (by kernel_rfl) (by kernel_rfl) (fun _ _ _ h => h) (by kernel_rfl) hS ?_
    refine rt_skip (i := 26) (some 38) rfl rfl (by kernel_rfl) (by kernel_rfl) (by kernel_rfl) (fun _ _ _ h => h) (by kernel_rfl) hS ?_
    refine rt_skip (i := 27) (some 39) rfl rfl (by kernel_rfl) (by kernel_rfl) (by kernel_rfl) (fun _ _ _ h => h) (by kernel_rfl) hS ?_
    refine rt_skip (i := 28) (some 40) rfl rfl (by kernel_rfl) (by kernel_rfl) (by kernel_rfl) (fun _ _ _ h => h) (by kernel_rfl) hS ?_
    refine rt_skip (i := 29) (some 41) rfl rfl (by kernel_rfl) (by kernel_rfl) (by kernel_rfl) (fun _ _ _ h => h) (by kernel_rfl) hS ?_
    refine rt_skip (i := 30) (some 42) rfl rfl (by kernel_rfl) (by kernel_rfl) (by kernel_rfl) (fun _ _ _ h => h) (by kernel_rfl) hS ?_
    refine rt_skip (i := 31) (some 43) rfl rfl (by kernel_rfl) (by kernel_rfl) (by kernel_rfl) (fun _ _ _ h => h) (by kernel_rfl) hS ?_
    refine rt_t (i := 32) (some 44) (.bool true) rfl hS (fun W _ => by kernel_rfl) ?_
    refine wpAnyH_done (by kernel_rfl) ?_ _
    try simp only [Act.put, lA, lB, lC]
    try go_wp2
    go_meet
    exact ⟨by rw [HCB]; rfl, Hi_ hS⟩
   have dA : (AR != (args.length : Int)) = false := by simpa using hA
   rw [decide_eq_true hA, Bool.true_and, if_pos h2, decide_eq_false hn1, Bool.false_or] at HCE
   clear h2 hn1
   by_cases hS : s = emp
   ·have dS : (s.toList == emp.toList) = true := by rw [hdS]; exact decide_eq_true hS
    have hbn : bn = false := by
     cases bn with
     | false => rfl
     | true => exact absurd hS (hks rfl)
    have HCB : CB = false := by rw [← HCE.out, hbn, Bool.false_and]
    refine wp_region_held_drew (S := fun W => Bel WB W) (by kernel_rfl) ((Bel.rfl_ WB).dr) (fun hS => ?_)
    refine rt_t (i := 0) (some 12) (.pointer (some ⟨G, 0, none⟩)) rfl hS (fun W _ => by kernel_rfl) ?_
    refine rt_t (i := 1) (some 13) (.int .i64 k) rfl hS (fun W hb => rl_int_ ((HK.out.keep hb).cell (i := 0) (v := .int .i64 k) rfl)) ?_
    refine rt_t (i := 3) (some 15) (.pointer (some ⟨G, 4, none⟩)) rfl hS (fun W _ => by kernel_rfl) ?_
    refine rt_t (i := 4) (some 16) (.slice A args.length c) rfl hS (fun W hb => rl_es_ ((HK.out.keep hb).cell (i := 4) (v := .slice A args.length c) rfl)) ?_
    refine rt_t (i := 5) (some 17) (.int .i64 args.length) rfl hS (fun W _ => by kernel_rfl) ?_
    refine rt_call (i := 2) (some 14) (by kernel_rfl) rfl rfl (by kernel_rfl) 189 #[.int .i64 k] (by kernel_rfl) (HAR.out _) ?_
    rintro e W' ⟨rfl, rfl⟩
    refine ⟨_, rfl, hS, fun hS => ?_⟩
    refine rt_t (i := 6) (some 18) (.bool false) rfl hS (fun W _ => rb_neqI rfl (by kernel_rfl) (by kernel_rfl) dA) ?_
    refine rt_t (i := 7) (some 19) (.bool false) rfl hS (fun W _ => by kernel_rfl) ?_
    refine rt_t (i := 8) (some 20) (.bool true) rfl hS (fun W _ => by kernel_rfl) ?_
    refine rt_t (i := 9) (some 21) (.pointer (some ⟨G, 3, none⟩)) rfl hS (fun W _ => by kernel_rfl) ?_
    refine rt_t (i := 10) (some 22) (.string s) rfl hS (fun W hb => rl_str_ ((HK.out.keep hb).cell (i := 3) (v := .string s) rfl)) ?_
    refine rt_t (i := 11) (some 23) (.bool false) rfl hS (fun W _ => rb_neqS (c := true) rfl (by kernel_rfl) (by kernel_rfl) dS) ?_
    refine rt_t (i := 12) (some 24) (.bool true) rfl hS (fun W _ => by kernel_rfl) ?_
    refine rt_t (i := 13) (some 25) (.bool true) rfl hS (fun W _ => by kernel_rfl) ?_
    refine rt_t (i := 14) (some 26) (.bool true) rfl hS (fun W _ => by kernel_rfl) ?_
    refine rt_skip (i := 15) (some 27) rfl rfl (by kernel_rfl) (by kernel_rfl) (by kernel_rfl) (fun _ _ _ h => h) (by kernel_rfl) hS ?_
    refine rt_skip (i := 16) (some 28) rfl rfl (by kernel_rfl) (by kernel_rfl) (by kernel_rfl) (fun _ _ _ h => h) (by kernel_rfl) hS ?_
    refine rt_skip (i := 17) (some 29) rfl rfl (by kernel_rfl) (by kernel_rfl) (by kernel_rfl) (fun _ _ _ h => h) (by kernel_rfl) hS ?_
    refine rt_skip (i := 18) (some 30) rfl rfl (by kernel_rfl) (by kernel_rfl) (by kernel_rfl) (fun _ _ _ h => h) (by kernel_rfl) hS ?_
    refine rt_skip (i := 19) (some 31) rfl rfl (by kernel_rfl) (by kernel_rfl) (by kernel_rfl) (fun _ _ _ h => h) (by kernel_rfl) hS ?_
    refine rt_skip (i := 20) (some 32) rfl rfl (by kernel_rfl) (by kernel_rfl) (by kernel_rfl) (fun _ _ _ h => h) (by kernel_rfl) hS ?_
    refine rt_skip (i := 21) (some 33) rfl rfl (by kernel_rfl) (by kernel_rfl) (by kernel_rfl) (fun _ _ _ h => h) (by kernel_rfl) hS ?_
    refine rt_t (i := 22) (some 34) (.bool true) rfl hS (fun W _ => by kernel_rfl) ?_
    refine rt_t (i := 23) (some 35) (.bool true) rfl hS (fun W _ => by kernel_rfl) ?_
    refine rt_skip (i := 24) (some 36) rfl rfl (by kernel_rfl) (by kernel_rfl) (by kernel_rfl) (fun _ _ _ h => h) (by kernel_rfl) hS ?_
    refine rt_skip (i := 25) (some 37) rfl rfl (by kernel_rfl) (by kernel_rfl) (by kernel_rfl) (fun _ _ _ h => h) (by kernel_rfl) hS ?_
    refine rt_skip (i := 26) (some 38) rfl rfl (by kernel_rfl) (by kernel_rfl) (by kernel_rfl) (fun _ _ _ h => h) (by kernel_rfl) hS ?_
    refine rt_skip (i := 27) (some 39) rfl rfl (by kernel_rfl) (by kernel_rfl) (by kernel_rfl) (fun _ _ _ h => h) (by kernel_rfl) hS ?_
    refine rt_skip (i := 28) (some 40) rfl rfl (by kernel_rfl) (by kernel_rfl) (by kernel_rfl) (fun _ _ _ h => h) (by kernel_rfl) hS ?_
    refine rt_skip (i := 29) (some 41) rfl rfl (by kernel_rfl) (by kernel_rfl) (by kernel_rfl) (fun _ _ _ h => h) (by kernel_rfl) hS ?_
    refine rt_skip (i := 30) (some 42) rfl rfl (by kernel_rfl) (by kernel_rfl) (by kernel_rfl) (fun _ _ _ h => h) (by kernel_rfl) hS ?_
    refine rt_skip (i := 31) (some 43) rfl rfl (by kernel_rfl) (by kernel_rfl) (by kernel_rfl) (fun _ _ _ h => h) (by kernel_rfl) hS ?_
    refine rt_t (i := 32) (some 44) (.bool true) rfl hS (fun W _ => by kernel_rfl) ?_
    refine wpAnyH_done (by kernel_rfl) ?_ _
    try simp only [Act.put, lA, lB, lC]
    try go_wp2
    go_meet
    exact ⟨by rw [HCB]; rfl, Hi_ hS⟩
   have dS : (s.toList == emp.toList) = false := by rw [hdS]; exact decide_eq_false hS
   cases bn with
   | false =>
    have HCB : CB = false := by rw [← HCE.out, Bool.false_and]
    refine wp_region_held_drew (S := fun W => Bel WB W) (by kernel_rfl) ((Bel.rfl_ WB).dr) (fun hS => ?_)
    refine rt_t (i := 0) (some 12) (.pointer (some ⟨G, 0, none⟩)) rfl hS (fun W _ => by kernel_rfl) ?_
    refine rt_t (i := 1) (some 13) (.int .i64 k) rfl hS (fun W hb => rl_int_ ((HK.out.keep hb).cell (i := 0) (v := .int .i64 k) rfl)) ?_
    refine rt_t (i := 3) (some 15) (.pointer (some ⟨G, 4, none⟩)) rfl hS (fun W _ => by kernel_rfl) ?_
    refine rt_t (i := 4) (some 16) (.slice A args.length c) rfl hS (fun W hb => rl_es_ ((HK.out.keep hb).cell (i := 4) (v := .slice A args.length c) rfl)) ?_
    refine rt_t (i := 5) (some 17) (.int .i64 args.length) rfl hS (fun W _ => by kernel_rfl) ?_
    refine rt_call (i := 2) (some 14) (by kernel_rfl) rfl rfl (by kernel_rfl) 189 #[.int .i64 k] (by kernel_rfl) (HAR.out _) ?_
    rintro e W' ⟨rfl, rfl⟩
    refine ⟨_, rfl, hS, fun hS => ?_⟩
    refine rt_t (i := 6) (some 18) (.bool false) rfl hS (fun W _ => rb_neqI rfl (by kernel_rfl) (by kernel_rfl) dA) ?_
    refine rt_t (i := 7) (some 19) (.bool false) rfl hS (fun W _ => by kernel_rfl) ?_
    refine rt_t (i := 8) (some 20) (.bool true) rfl hS (fun W _ => by kernel_rfl) ?_
    refine rt_t (i := 9) (some 21) (.pointer (some ⟨G, 3, none⟩)) rfl hS (fun W _ => by kernel_rfl) ?_
    refine rt_t (i := 10) (some 22) (.string s) rfl hS (fun W hb => rl_str_ ((HK.out.keep hb).cell (i := 3) (v := .string s) rfl)) ?_
    refine rt_t (i := 11) (some 23) (.bool true) rfl hS (fun W _ => rb_neqS (c := false) rfl (by kernel_rfl) (by kernel_rfl) dS) ?_
    refine rt_t (i := 12) (some 24) (.bool false) rfl hS (fun W _ => by kernel_rfl) ?_
    refine rt_t (i := 13) (some 25) (.bool false) rfl hS (fun W _ => by kernel_rfl) ?_
    refine rt_t (i := 14) (some 26) (.bool false) rfl hS (fun W _ => by kernel_rfl) ?_
    refine rt_t (i := 15) (some 27) (.bool true) rfl hS (fun W _ => by kernel_rfl) ?_
    refine rt_t (i := 16) (some 28) (.bool true) rfl hS (fun W _ => by kernel_rfl) ?_
    refine rt_t (i := 17) (some 29) (.pointer (some ⟨G, 3, none⟩)) rfl hS (fun W _ => by kernel_rfl) ?_
    refine rt_t (i := 18) (some 30) (.string s) rfl hS (fun W hb => rl_str_ ((HK.out.keep hb).cell (i := 3) (v := .string s) rfl)) ?_
    refine rt_call (i := 19) (some 31) (by kernel_rfl) rfl rfl (by kernel_rfl) 104 #[.string s] (by kernel_rfl) (HNM.out _) ?_
    rintro e W' ⟨rfl, hb⟩
    refine ⟨_, rfl, hS.tr hb, fun hS => ?_⟩
    refine rt_t (i := 20) (some 32) (.bool true) rfl hS (fun W _ => by kernel_rfl) ?_
    refine rt_t (i := 21) (some 33) (.bool true) rfl hS (fun W _ => by kernel_rfl) ?_
    refine rt_t (i := 22) (some 34) (.bool true) rfl hS (fun W _ => by kernel_rfl) ?_
    refine rt_t (i := 23) (some 35) (.bool true) rfl hS (fun W _ => by kernel_rfl) ?_
    refine rt_skip (i := 24) (some 36) rfl rfl (by kernel_rfl) (by kernel_rfl) (by kernel_rfl) (fun _ _ _ h => h) (by kernel_rfl) hS ?_
    refine rt_skip (i := 25) (some 37) rfl rfl (by kernel_rfl) (by kernel_rfl) (by kernel_rfl) (fun _ _ _ h => h) (by kernel_rfl) hS ?_
    refine rt_skip (i := 26) (some 38) rfl rfl (by kernel_rfl) (by kernel_rfl) (by kernel_rfl) (fun _ _ _ h => h) (by kernel_rfl) hS ?_
    refine rt_skip (i := 27) (some 39) rfl rfl (by kernel_rfl) (by kernel_rfl) (by kernel_rfl) (fun _ _ _ h => h) (by kernel_rfl) hS ?_
    refine rt_skip (i := 28) (some 40) rfl rfl (by kernel_rfl) (by kernel_rfl) (by kernel_rfl) (fun _ _ _ h => h) (by kernel_rfl) hS ?_
    refine rt_skip (i := 29) (some 41) rfl rfl (by kernel_rfl) (by kernel_rfl) (by kernel_rfl) (fun _ _ _ h => h) (by kernel_rfl) hS ?_
    refine rt_skip (i := 30) (some 42) rfl rfl (by kernel_rfl) (by kernel_rfl) (by kernel_rfl) (fun _ _ _ h => h) (by kernel_rfl) hS ?_
    refine rt_skip (i := 31) (some 43) rfl rfl (by kernel_rfl) (by kernel_rfl) (by kernel_rfl) (fun _ _ _ h => h) (by kernel_rfl) hS ?_
    refine rt_t (i := 32) (some 44) (.bool true) rfl hS (fun W _ => by kernel_rfl) ?_
    refine wpAnyH_done (by kernel_rfl) ?_ _
    try simp only [Act.put, lA, lB, lC]
    try go_wp2
    go_meet
    exact ⟨by rw [HCB]; rfl, Hi_ hS⟩
   | true =>
    rw [Bool.true_and] at HCE
    by_cases hZ : n = 0
    ·have dZ : (n != 0) = false := by simpa using hZ
     have HCB : CB = true := by rw [← HCE.out]; exact decide_eq_true hZ
     clear hZ HCE
     refine wp_region_held_drew (S := fun W => Bel WB W) (by kernel_rfl) ((Bel.rfl_ WB).dr) (fun hS => ?_)
     refine rt_t (i := 0) (some 12) (.pointer (some ⟨G, 0, none⟩)) rfl hS (fun W _ => by kernel_rfl) ?_
     refine rt_t (i := 1) (some 13) (.int .i64 k) rfl hS (fun W hb => rl_int_ ((HK.out.keep hb).cell (i := 0) (v := .int .i64 k) rfl)) ?_
     refine rt_t (i := 3) (some 15) (.pointer (some ⟨G, 4, none⟩)) rfl hS (fun W _ => by kernel_rfl) ?_
     refine rt_t (i := 4) (some 16) (.slice A args.length c) rfl hS (fun W hb => rl_es_ ((HK.out.keep hb).cell (i := 4) (v := .slice A args.length c) rfl)) ?_
     refine rt_t (i := 5) (some 17) (.int .i64 args.length) rfl hS (fun W _ => by kernel_rfl) ?_
     refine rt_call (i := 2) (some 14) (by kernel_rfl) rfl rfl (by kernel_rfl) 189 #[.int .i64 k] (by kernel_rfl) (HAR.out _) ?_
     rintro e W' ⟨rfl, rfl⟩
     refine ⟨_, rfl, hS, fun hS => ?_⟩
     refine rt_t (i := 6) (some 18) (.bool false) rfl hS (fun W _ => rb_neqI rfl (by kernel_rfl) (by kernel_rfl) dA) ?_
     refine rt_t (i := 7) (some 19) (.bool false) rfl hS (fun W _ => by kernel_rfl) ?_
     refine rt_t (i := 8) (some 20) (.bool true) rfl hS (fun W _ => by kernel_rfl) ?_
     refine rt_t (i := 9) (some 21) (.pointer (some ⟨G, 3, none⟩)) rfl hS (fun W _ => by kernel_rfl) ?_
     refine rt_t (i := 10) (some 22) (.string s) rfl hS (fun W hb => rl_str_ ((HK.out.keep hb).cell (i := 3) (v := .string s) rfl)) ?_
     refine rt_t (i := 11) (some 23) (.bool true) rfl hS (fun W _ => rb_neqS (c := false) rfl (by kernel_rfl) (by kernel_rfl) dS) ?_
     refine rt_t (i := 12) (some 24) (.bool false) rfl hS (fun W _ => by kernel_rfl) ?_
     refine rt_t (i := 13) (some 25) (.bool false) rfl hS (fun W _ => by kernel_rfl) ?_
     refine rt_t (i := 14) (some 26) (.bool false) rfl hS (fun W _ => by kernel_rfl) ?_
     refine rt_t (i := 15) (some 27) (.bool true) rfl hS (fun W _ => by kernel_rfl) ?_
     refine rt_t (i := 16) (some 28) (.bool true) rfl hS (fun W _ => by kernel_rfl) ?_
     refine rt_t (i := 17) (some 29) (.pointer (some ⟨G, 3, none⟩)) rfl hS (fun W _ => by kernel_rfl) ?_
     refine rt_t (i := 18) (some 30) (.string s) rfl hS (fun W hb => rl_str_ ((HK.out.keep hb).cell (i := 3) (v := .string s) rfl)) ?_
     refine rt_call (i := 19) (some 31) (by kernel_rfl) rfl rfl (by kernel_rfl) 104 #[.string s] (by kernel_rfl) (HNM.out _) ?_
     rintro e W' ⟨rfl, hb⟩
     refine ⟨_, rfl, hS.tr hb, fun hS => ?_⟩
     refine rt_t (i := 20) (some 32) (.bool false) rfl hS (fun W _ => by kernel_rfl) ?_
     refine rt_t (i := 21) (some 33) (.bool false) rfl hS (fun W _ => by kernel_rfl) ?_
     refine rt_t (i := 22) (some 34) (.bool false) rfl hS (fun W _ => by kernel_rfl) ?_
     refine rt_t (i := 23) (some 35) (.bool false) rfl hS (fun W _ => by kernel_rfl) ?_
     refine rt_t (i := 24) (some 36) (.pointer (some ⟨G, 0, none⟩)) rfl hS (fun W _ => by kernel_rfl) ?_
     refine rt_t (i := 25) (some 37) (.int .i64 k) rfl hS (fun W hb => rl_int_ ((HK.out.keep hb).cell (i := 0) (v := .int .i64 k) rfl)) ?_
     refine rt_t (i := 26) (some 38) (.bool true) rfl hS (fun W _ => rb_neqI rfl (by kernel_rfl) (by kernel_rfl) dK) ?_
     refine rt_t (i := 27) (some 39) (.bool true) rfl hS (fun W _ => by kernel_rfl) ?_
     refine rt_t (i := 28) (some 40) (.pointer (some ⟨G, 2, none⟩)) rfl hS (fun W _ => by kernel_rfl) ?_
     refine rt_t (i := 29) (some 41) (.int .i64 n) rfl hS (fun W hb => rl_int_ ((HK.out.keep hb).cell (i := 2) (v := .int .i64 n) rfl)) ?_
     refine rt_t (i := 30) (some 42) (.bool false) rfl hS (fun W _ => rb_neqI rfl (by kernel_rfl) (by kernel_rfl) dZ) ?_
     refine rt_t (i := 31) (some 43) (.bool false) rfl hS (fun W _ => by kernel_rfl) ?_
     refine rt_t (i := 32) (some 44) (.bool false) rfl hS (fun W _ => by kernel_rfl) ?_
     refine wpAnyH_done (by kernel_rfl) ?_ _
     try simp only [Act.put, lA, lB, lC]
     try go_wp2
     go_meet
     exact ⟨by rw [HCB]; rfl, Hi_ hS⟩
    ·have dZ : (n != 0) = true := by simpa using hZ
     have HCB : CB = false := by rw [← HCE.out]; exact decide_eq_false hZ
     refine wp_region_held_drew (S := fun W => Bel WB W) (by kernel_rfl) ((Bel.rfl_ WB).dr) (fun hS => ?_)
     refine rt_t (i := 0) (some 12) (.pointer (some ⟨G, 0, none⟩)) rfl hS (fun W _ => by kernel_rfl) ?_
     refine rt_t (i := 1) (some 13) (.int .i64 k) rfl hS (fun W hb => rl_int_ ((HK.out.keep hb).cell (i := 0) (v := .int .i64 k) rfl)) ?_
     refine rt_t (i := 3) (some 15) (.pointer (some ⟨G, 4, none⟩)) rfl hS (fun W _ => by kernel_rfl) ?_
     refine rt_t (i := 4) (some 16) (.slice A args.length c) rfl hS (fun W hb => rl_es_ ((HK.out.keep hb).cell (i := 4) (v := .slice A args.length c) rfl)) ?_
     refine rt_t (i := 5) (some 17) (.int .i64 args.length) rfl hS (fun W _ => by kernel_rfl) ?_
     refine rt_call (i := 2) (some 14) (by kernel_rfl) rfl rfl (by kernel_rfl) 189 #[.int .i64 k] (by kernel_rfl) (HAR.out _) ?_
     rintro e W' ⟨rfl, rfl⟩
     refine ⟨_, rfl, hS, fun hS => ?_⟩
     refine rt_t (i := 6) (some 18) (.bool false) rfl hS (fun W _ => rb_neqI rfl (by kernel_rfl) (by kernel_rfl) dA) ?_
     refine rt_t (i := 7) (some 19) (.bool false) rfl hS (fun W _ => by kernel_rfl) ?_
     refine rt_t (i := 8) (some 20) (.bool true) rfl hS (fun W _ => by kernel_rfl) ?_
     refine rt_t (i := 9) (some 21) (.pointer (some ⟨G, 3, none⟩)) rfl hS (fun W _ => by kernel_rfl) ?_
     refine rt_t (i := 10) (some 22) (.string s) rfl hS (fun W hb => rl_str_ ((HK.out.keep hb).cell (i := 3) (v := .string s) rfl)) ?_
     refine rt_t (i := 11) (some 23) (.bool true) rfl hS (fun W _ => rb_neqS (c := false) rfl (by kernel_rfl) (by kernel_rfl) dS) ?_
     refine rt_t (i := 12) (some 24) (.bool false) rfl hS (fun W _ => by kernel_rfl) ?_
     refine rt_t (i := 13) (some 25) (.bool false) rfl hS (fun W _ => by kernel_rfl) ?_
     refine rt_t (i := 14) (some 26) (.bool false) rfl hS (fun W _ => by kernel_rfl) ?_
     refine rt_t (i := 15) (some 27) (.bool true) rfl hS (fun W _ => by kernel_rfl) ?_
     refine rt_t (i := 16) (some 28) (.bool true) rfl hS (fun W _ => by kernel_rfl) ?_
     refine rt_t (i := 17) (some 29) (.pointer (some ⟨G, 3, none⟩)) rfl hS (fun W _ => by kernel_rfl) ?_
     refine rt_t (i := 18) (some 30) (.string s) rfl hS (fun W hb => rl_str_ ((HK.out.keep hb).cell (i := 3) (v := .string s) rfl)) ?_
     refine rt_call (i := 19) (some 31) (by kernel_rfl) rfl rfl (by kernel_rfl) 104 #[.string s] (by kernel_rfl) (HNM.out _) ?_
     rintro e W' ⟨rfl, hb⟩
     refine ⟨_, rfl, hS.tr hb, fun hS => ?_⟩
     refine rt_t (i := 20) (some 32) (.bool false) rfl hS (fun W _ => by kernel_rfl) ?_
     refine rt_t (i := 21) (some 33) (.bool false) rfl hS (fun W _ => by kernel_rfl) ?_
     refine rt_t (i := 22) (some 34) (.bool false) rfl hS (fun W _ => by kernel_rfl) ?_
     refine rt_t (i := 23) (some 35) (.bool false) rfl hS (fun W _ => by kernel_rfl) ?_
     refine rt_t (i := 24) (some 36) (.pointer (some ⟨G, 0, none⟩)) rfl hS (fun W _ => by kernel_rfl) ?_
     refine rt_t (i := 25) (some 37) (.int .i64 k) rfl hS (fun W hb => rl_int_ ((HK.out.keep hb).cell (i := 0) (v := .int .i64 k) rfl)) ?_
     refine rt_t (i := 26) (some 38) (.bool true) rfl hS (fun W _ => rb_neqI rfl (by kernel_rfl) (by kernel_rfl) dK) ?_
     refine rt_t (i := 27) (some 39) (.bool true) rfl hS (fun W _ => by kernel_rfl) ?_
     refine rt_t (i := 28) (some 40) (.pointer (some ⟨G, 2, none⟩)) rfl hS (fun W _ => by kernel_rfl) ?_
     refine rt_t (i := 29) (some 41) (.int .i64 n) rfl hS (fun W hb => rl_int_ ((HK.out.keep hb).cell (i := 2) (v := .int .i64 n) rfl)) ?_
     refine rt_t (i := 30) (some 42) (.bool true) rfl hS (fun W _ => rb_neqI rfl (by kernel_rfl) (by kernel_rfl) dZ) ?_
     refine rt_t (i := 31) (some 43) (.bool true) rfl hS (fun W _ => by kernel_rfl) ?_
     refine rt_t (i := 32) (some 44) (.bool true) rfl hS (fun W _ => by kernel_rfl) ?_
     refine wpAnyH_done (by kernel_rfl) ?_ _
     try simp only [Act.put, lA, lB, lC]
     try go_wp2
     go_meet
     exact ⟨by rw [HCB]; rfl, Hi_ hS⟩
  | false =>
   have h2 : ¬ (k = 2 ∨ k = 3) := of_decide_eq_false HNM2.out
   rw [if_neg h2] at HCE
   clear h2
   by_cases hA : AR = (args.length : Int)
   rotate_left
   ·have dA : (AR != (args.length : Int)) = true := by simpa using hA
    have HCB : CB = false := by rw [← HCE.out, decide_eq_false hA, Bool.false_and]
    refine wp_region_held_drew (S := fun W => Bel WB W) (by kernel_rfl) ((Bel.rfl_ WB).dr) (fun hS => ?_)
    refine rt_t (i := 0) (some 12) (.pointer (some ⟨G, 0, none⟩)) rfl hS (fun W _ => by kernel_rfl) ?_
    refine rt_t (i := 1) (some 13) (.int .i64 k) rfl hS (fun W hb => rl_int_ ((HK.out.keep hb).cell (i := 0) (v := .int .i64 k) rfl)) ?_
    refine rt_t (i := 3) (some 15) (.pointer (some ⟨G, 4, none⟩)) rfl hS (fun W _ => by kernel_rfl) ?_
    refine rt_t (i := 4) (some 16) (.slice A args.length c) rfl hS (fun W hb => rl_es_ ((HK.out.keep hb).cell (i := 4) (v := .slice A args.length c) rfl)) ?_
    refine rt_t (i := 5) (some 17) (.int .i64 args.length) rfl hS (fun W _ => by kernel_rfl) ?_
    refine rt_call (i := 2) (some 14) (by kernel_rfl) rfl rfl (by kernel_rfl) 189 #[.int .i64 k] (by kernel_rfl) (HAR.out _) ?_
    rintro e W' ⟨rfl, rfl⟩
    refine ⟨_, rfl, hS, fun hS => ?_⟩
    refine rt_t (i := 6) (some 18) (.bool true) rfl hS (fun W _ => rb_neqI rfl (by kernel_rfl) (by kernel_rfl) dA) ?_
    refine rt_t (i := 7) (some 19) (.bool true) rfl hS (fun W _ => by kernel_rfl) ?_
    refine rt_skip (i := 8) (some 20) rfl rfl (by kernel_rfl) (by kernel_rfl) (by kernel_rfl) (fun _ _ _ h => h) (by kernel_rfl) hS ?_
    refine rt_skip (i := 9) (some 21) rfl rfl (by kernel_rfl) (by kernel_rfl) (by kernel_rfl) (fun _ _ _ h => h) (by kernel_rfl) hS ?_
    refine rt_skip (i := 10) (some 22) rfl rfl (by kernel_rfl) (by kernel_rfl) (by kernel_rfl) (fun _ _ _ h => h) (by kernel_rfl) hS ?_
    refine rt_skip (i := 11) (some 23) rfl rfl (by kernel_rfl) (by kernel_rfl) (by kernel_rfl) (fun _ _ _ h => h) (by kernel_rfl) hS ?_
    refine rt_skip (i := 12) (some 24) rfl rfl (by kernel_rfl) (by kernel_rfl) (by kernel_rfl) (fun _ _ _ h => h) (by kernel_rfl) hS ?_
    refine rt_t (i := 13) (some 25) (.bool true) rfl hS (fun W _ => by kernel_rfl) ?_
    refine rt_t (i := 14) (some 26) (.bool true) rfl hS (fun W _ => by kernel_rfl) ?_
    refine rt_skip (i := 15) (some 27) rfl rfl (by kernel_rfl) (by kernel_rfl) (by kernel_rfl) (fun _ _ _ h => h) (by kernel_rfl) hS ?_
    refine rt_skip (i := 16) (some 28) rfl rfl (by kernel_rfl) (by kernel_rfl) (by kernel_rfl) (fun _ _ _ h => h) (by kernel_rfl) hS ?_
    refine rt_skip (i := 17) (some 29) rfl rfl (by kernel_rfl) (by kernel_rfl) (by kernel_rfl) (fun _ _ _ h => h) (by kernel_rfl) hS ?_
    refine rt_skip (i := 18) (some 30) rfl rfl (by kernel_rfl) (by kernel_rfl) (by kernel_rfl) (fun _ _ _ h => h) (by kernel_rfl) hS ?_
    refine rt_skip (i := 19) (some 31) rfl rfl (by kernel_rfl) (by kernel_rfl) (by kernel_rfl) (fun _ _ _ h => h) (by kernel_rfl) hS ?_
    refine rt_skip (i := 20) (some 32) rfl rfl (by kernel_rfl) (by kernel_rfl) (by kernel_rfl) (fun _ _ _ h => h) (by kernel_rfl) hS ?_
    refine rt_skip (i := 21) (some 33) rfl rfl (by kernel_rfl) (by kernel_rfl) (by kernel_rfl) (fun _ _ _ h => h) (by kernel_rfl) hS ?_
    refine rt_t (i := 22) (some 34) (.bool true) rfl hS (fun W _ => by kernel_rfl) ?_
    refine rt_t (i := 23) (some 35) (.bool true) rfl hS (fun W _ => by kernel_rfl) ?_
    refine rt_skip (i := 24) (some 36) rfl rfl (by kernel_rfl) (by kernel_rfl) (by kernel_rfl) (fun _ _ _ h => h) (by kernel_rfl) hS ?_
    refine rt_skip (i := 25) (some 37) rfl rfl (by kernel_rfl) (by kernel_rfl) (by kernel_rfl) (fun _ _ _ h => h) (by kernel_rfl) hS ?_
    refine rt_skip (i := 26) (some 38) rfl rfl (by kernel_rfl) (by kernel_rfl) (by kernel_rfl) (fun _ _ _ h => h) (by kernel_rfl) hS ?_
    refine rt_skip (i := 27) (some 39) rfl rfl (by kernel_rfl) (by kernel_rfl) (by kernel_rfl) (fun _ _ _ h => h) (by kernel_rfl) hS ?_
    refine rt_skip (i := 28) (some 40) rfl rfl (by kernel_rfl) (by kernel_rfl) (by kernel_rfl) (fun _ _ _ h => h) (by kernel_rfl) hS ?_
    refine rt_skip (i := 29) (some 41) rfl rfl (by kernel_rfl) (by kernel_rfl) (by kernel_rfl) (fun _ _ _ h => h) (by kernel_rfl) hS ?_
    refine rt_skip (i := 30) (some 42) rfl rfl (by kernel_rfl) (by kernel_rfl) (by kernel_rfl) (fun _ _ _ h => h) (by kernel_rfl) hS ?_
    refine rt_skip (i := 31) (some 43) rfl rfl (by kernel_rfl) (by kernel_rfl) (by kernel_rfl) (fun _ _ _ h => h) (by kernel_rfl) hS ?_
    refine rt_t (i := 32) (some 44) (.bool true) rfl hS (fun W _ => by kernel_rfl) ?_
    refine wpAnyH_done (by kernel_rfl) ?_ _
    try simp only [Act.put, lA, lB, lC]
    try go_wp2
    go_meet
    exact ⟨by rw [HCB]; rfl, Hi_ hS⟩
   have dA : (AR != (args.length : Int)) = false := by simpa using hA
   rw [decide_eq_true hA, Bool.true_and] at HCE
   by_cases hS : s = emp
   rotate_left
   ·have dS : (s.toList == emp.toList) = false := by rw [hdS]; exact decide_eq_false hS
    have HCB : CB = false := by rw [← HCE.out, decide_eq_false hS, Bool.false_and]
    refine wp_region_held_drew (S := fun W => Bel WB W) (by kernel_rfl) ((Bel.rfl_ WB).dr) (fun hS => ?_)
    refine rt_t (i := 0) (some 12) (.pointer (some ⟨G, 0, none⟩)) rfl hS (fun W _ => by kernel_rfl) ?_
    refine rt_t (i := 1) (some 13) (.int .i64 k) rfl hS (fun W hb => rl_int_ ((HK.out.keep hb).cell (i := 0) (v := .int .i64 k) rfl)) ?_
    refine rt_t (i := 3) (some 15) (.pointer (some ⟨G, 4, none⟩)) rfl hS (fun W _ => by kernel_rfl) ?_
    refine rt_t (i := 4) (some 16) (.slice A args.length c) rfl hS (fun W hb => rl_es_ ((HK.out.keep hb).cell (i := 4) (v := .slice A args.length c) rfl)) ?_
    refine rt_t (i := 5) (some 17) (.int .i64 args.length) rfl hS (fun W _ => by kernel_rfl) ?_
    refine rt_call (i := 2) (some 14) (by kernel_rfl) rfl rfl (by kernel_rfl) 189 #[.int .i64 k] (by kernel_rfl) (HAR.out _) ?_
    rintro e W' ⟨rfl, rfl⟩
    refine ⟨_, rfl, hS, fun hS => ?_⟩
    refine rt_t (i := 6) (some 18) (.bool false) rfl hS (fun W _ => rb_neqI rfl (by kernel_rfl) (by kernel_rfl) dA) ?_
    refine rt_t (i := 7) (some 19) (.bool false) rfl hS (fun W _ => by kernel_rfl) ?_
    refine rt_t (i := 8) (some 20) (.bool false) rfl hS (fun W _ => by kernel_rfl) ?_
    refine rt_t (i := 9) (some 21) (.pointer (some ⟨G, 3, none⟩)) rfl hS (fun W _ => by kernel_rfl) ?_
    refine rt_t (i := 10) (some 22) (.string s) rfl hS (fun W hb => rl_str_ ((HK.out.keep hb).cell (i := 3) (v := .string s) rfl)) ?_
    refine rt_t (i := 11) (some 23) (.bool true) rfl hS (fun W _ => rb_neqS (c := false) rfl (by kernel_rfl) (by kernel_rfl) dS) ?_
    refine rt_t (i := 12) (some 24) (.bool true) rfl hS (fun W _ => by kernel_rfl) ?_
    refine rt_t (i := 13) (some 25) (.bool true) rfl hS (fun W _ => by kernel_rfl) ?_
    refine rt_t (i := 14) (some 26) (.bool true) rfl hS (fun W _ => by kernel_rfl) ?_
    refine rt_skip (i := 15) (some 27) rfl rfl (by kernel_rfl) (by kernel_rfl) (by kernel_rfl) (fun _ _ _ h => h) (by kernel_rfl) hS ?_
    refine rt_skip (i := 16) (some 28) rfl rfl (by kernel_rfl) (by kernel_rfl) (by kernel_rfl) (fun _ _ _ h => h) (by kernel_rfl) hS ?_
    refine rt_skip (i := 17) (some 29) rfl rfl (by kernel_rfl) (by kernel_rfl) (by kernel_rfl) (fun _ _ _ h => h) (by kernel_rfl) hS ?_
    refine rt_skip (i := 18) (some 30) rfl rfl (by kernel_rfl) (by kernel_rfl) (by kernel_rfl) (fun _ _ _ h => h) (by kernel_rfl) hS ?_
    refine rt_skip (i := 19) (some 31) rfl rfl (by kernel_rfl) (by kernel_rfl) (by kernel_rfl) (fun _ _ _ h => h) (by kernel_rfl) hS ?_
    refine rt_skip (i := 20) (some 32) rfl rfl (by kernel_rfl) (by kernel_rfl) (by kernel_rfl) (fun _ _ _ h => h) (by kernel_rfl) hS ?_
    refine rt_skip (i := 21) (some 33) rfl rfl (by kernel_rfl) (by kernel_rfl) (by kernel_rfl) (fun _ _ _ h => h) (by kernel_rfl) hS ?_
    refine rt_t (i := 22) (some 34) (.bool true) rfl hS (fun W _ => by kernel_rfl) ?_
    refine rt_t (i := 23) (some 35) (.bool true) rfl hS (fun W _ => by kernel_rfl) ?_
    refine rt_skip (i := 24) (some 36) rfl rfl (by kernel_rfl) (by kernel_rfl) (by kernel_rfl) (fun _ _ _ h => h) (by kernel_rfl) hS ?_
    refine rt_skip (i := 25) (some 37) rfl rfl (by kernel_rfl) (by kernel_rfl) (by kernel_rfl) (fun _ _ _ h => h) (by kernel_rfl) hS ?_
    refine rt_skip (i := 26) (some 38) rfl rfl (by kernel_rfl) (by kernel_rfl) (by kernel_rfl) (fun _ _ _ h => h) (by kernel_rfl) hS ?_
    refine rt_skip (i := 27) (some 39) rfl rfl (by kernel_rfl) (by kernel_rfl) (by kernel_rfl) (fun _ _ _ h => h) (by kernel_rfl) hS ?_
    refine rt_skip (i := 28) (some 40) rfl rfl (by kernel_rfl) (by kernel_rfl) (by kernel_rfl) (fun _ _ _ h => h) (by kernel_rfl) hS ?_
    refine rt_skip (i := 29) (some 41) rfl rfl (by kernel_rfl) (by kernel_rfl) (by kernel_rfl) (fun _ _ _ h => h) (by kernel_rfl) hS ?_
    refine rt_skip (i := 30) (some 42) rfl rfl (by kernel_rfl) (by kernel_rfl) (by kernel_rfl) (fun _ _ _ h => h) (by kernel_rfl) hS ?_
    refine rt_skip (i := 31) (some 43) rfl rfl (by kernel_rfl) (by kernel_rfl) (by kernel_rfl) (fun _ _ _ h => h) (by kernel_rfl) hS ?_
    refine rt_t (i := 32) (some 44) (.bool true) rfl hS (fun W _ => by kernel_rfl) ?_
    refine wpAnyH_done (by kernel_rfl) ?_ _
    try simp only [Act.put, lA, lB, lC]
    try go_wp2
    go_meet
    exact ⟨by rw [HCB]; rfl, Hi_ hS⟩
   have dS : (s.toList == emp.toList) = true := by rw [hdS]; exact decide_eq_true hS
   rw [decide_eq_true hS, Bool.true_and] at HCE
   by_cases hK : k = 1
   ·have dK : (k != 1) = false := by simpa using hK
    have HCB : CB = true := by rw [← HCE.out, decide_eq_true hK, Bool.true_or]
    refine wp_region_held_drew (S := fun W => Bel WB W) (by kernel_rfl) ((Bel.rfl_ WB).dr) (fun hS => ?_)
    refine rt_t (i := 0) (some 12) (.pointer (some ⟨G, 0, none⟩)) rfl hS (fun W _ => by kernel_rfl) ?_
    refine rt_t (i := 1) (some 13) (.int .i64 k) rfl hS (fun W hb => rl_int_ ((HK.out.keep hb).cell (i := 0) (v := .int .i64 k) rfl)) ?_
    refine rt_t (i := 3) (some 15) (.pointer (some ⟨G, 4, none⟩)) rfl hS (fun W _ => by kernel_rfl) ?_
    refine rt_t (i := 4) (some 16) (.slice A args.length c) rfl hS (fun W hb => rl_es_ ((HK.out.keep hb).cell (i := 4) (v := .slice A args.length c) rfl)) ?_
    refine rt_t (i := 5) (some 17) (.int .i64 args.length) rfl hS (fun W _ => by kernel_rfl) ?_
    refine rt_call (i := 2) (some 14) (by kernel_rfl) rfl rfl (by kernel_rfl) 189 #[.int .i64 k] (by kernel_rfl) (HAR.out _) ?_
    rintro e W' ⟨rfl, rfl⟩
    refine ⟨_, rfl, hS, fun hS => ?_⟩
    refine rt_t (i := 6) (some 18) (.bool false) rfl hS (fun W _ => rb_neqI rfl (by kernel_rfl) (by kernel_rfl) dA) ?_
    refine rt_t (i := 7) (some 19) (.bool false) rfl hS (fun W _ => by kernel_rfl) ?_
    refine rt_t (i := 8) (some 20) (.bool false) rfl hS (fun W _ => by kernel_rfl) ?_
    refine rt_t (i := 9) (some 21) (.pointer (some ⟨G, 3, none⟩)) rfl hS (fun W _ => by kernel_rfl) ?_
    refine rt_t (i := 10) (some 22) (.string s) rfl hS (fun W hb => rl_str_ ((HK.out.keep hb).cell (i := 3) (v := .string s) rfl)) ?_
    refine rt_t (i := 11) (some 23) (.bool false) rfl hS (fun W _ => rb_neqS (c := true) rfl (by kernel_rfl) (by kernel_rfl) dS) ?_
    refine rt_t (i := 12) (some 24) (.bool false) rfl hS (fun W _ => by kernel_rfl) ?_
    refine rt_t (i := 13) (some 25) (.bool false) rfl hS (fun W _ => by kernel_rfl) ?_
    refine rt_t (i := 14) (some 26) (.bool false) rfl hS (fun W _ => by kernel_rfl) ?_
    refine rt_t (i := 15) (some 27) (.bool false) rfl hS (fun W _ => by kernel_rfl) ?_
    refine rt_t (i := 16) (some 28) (.bool false) rfl hS (fun W _ => by kernel_rfl) ?_
    refine rt_skip (i := 17) (some 29) rfl rfl (by kernel_rfl) (by kernel_rfl) (by kernel_rfl) (fun _ _ _ h => h) (by kernel_rfl) hS ?_
    refine rt_skip (i := 18) (some 30) rfl rfl (by kernel_rfl) (by kernel_rfl) (by kernel_rfl) (fun _ _ _ h => h) (by kernel_rfl) hS ?_
    refine rt_skip (i := 19) (some 31) rfl rfl (by kernel_rfl) (by kernel_rfl) (by kernel_rfl) (fun _ _ _ h => h) (by kernel_rfl) hS ?_
    refine rt_skip (i := 20) (some 32) rfl rfl (by kernel_rfl) (by kernel_rfl) (by kernel_rfl) (fun _ _ _ h => h) (by kernel_rfl) hS ?_
    refine rt_t (i := 21) (some 33) (.bool false) rfl hS (fun W _ => by kernel_rfl) ?_
    refine rt_t (i := 22) (some 34) (.bool false) rfl hS (fun W _ => by kernel_rfl) ?_
    refine rt_t (i := 23) (some 35) (.bool false) rfl hS (fun W _ => by kernel_rfl) ?_
    refine rt_t (i := 24) (some 36) (.pointer (some ⟨G, 0, none⟩)) rfl hS (fun W _ => by kernel_rfl) ?_
    refine rt_t (i := 25) (some 37) (.int .i64 k) rfl hS (fun W hb => rl_int_ ((HK.out.keep hb).cell (i := 0) (v := .int .i64 k) rfl)) ?_
    refine rt_t (i := 26) (some 38) (.bool false) rfl hS (fun W _ => rb_neqI rfl (by kernel_rfl) (by kernel_rfl) dK) ?_
    refine rt_t (i := 27) (some 39) (.bool false) rfl hS (fun W _ => by kernel_rfl) ?_
    refine rt_skip (i := 28) (some 40) rfl rfl (by kernel_rfl) (by kernel_rfl) (by kernel_rfl) (fun _ _ _ h => h) (by kernel_rfl) hS ?_
    refine rt_skip (i := 29) (some 41) rfl rfl (by kernel_rfl) (by kernel_rfl) (by kernel_rfl) (fun _ _ _ h => h) (by kernel_rfl) hS ?_
    refine rt_skip (i := 30) (some 42) rfl rfl (by kernel_rfl) (by kernel_rfl) (by kernel_rfl) (fun _ _ _ h => h) (by kernel_rfl) hS ?_
    refine rt_t (i := 31) (some 43) (.bool false) rfl hS (fun W _ => by kernel_rfl) ?_
    refine rt_t (i := 32) (some 44) (.bool false) rfl hS (fun W _ => by kernel_rfl) ?_
    refine wpAnyH_done (by kernel_rfl) ?_ _
    try simp only [Act.put, lA, lB, lC]
    try go_wp2
    go_meet
    exact ⟨by rw [HCB]; rfl, Hi_ hS⟩
   have dK : (k != 1) = true := by simpa using hK
   rw [decide_eq_false hK, Bool.false_or] at HCE
   by_cases hZ : n = 0
   ·have dZ : (n != 0) = false := by simpa using hZ
    have HCB : CB = true := by rw [← HCE.out]; exact decide_eq_true hZ
    clear hZ HCE
    refine wp_region_held_drew (S := fun W => Bel WB W) (by kernel_rfl) ((Bel.rfl_ WB).dr) (fun hS => ?_)
    refine rt_t (i := 0) (some 12) (.pointer (some ⟨G, 0, none⟩)) rfl hS (fun W _ => by kernel_rfl) ?_
    refine rt_t (i := 1) (some 13) (.int .i64 k) rfl hS (fun W hb => rl_int_ ((HK.out.keep hb).cell (i := 0) (v := .int .i64 k) rfl)) ?_
    refine rt_t (i := 3) (some 15) (.pointer (some ⟨G, 4, none⟩)) rfl hS (fun W _ => by kernel_rfl) ?_
    refine rt_t (i := 4) (some 16) (.slice A args.length c) rfl hS (fun W hb => rl_es_ ((HK.out.keep hb).cell (i := 4) (v := .slice A args.length c) rfl)) ?_
    refine rt_t (i := 5) (some 17) (.int .i64 args.length) rfl hS (fun W _ => by kernel_rfl) ?_
    refine rt_call (i := 2) (some 14) (by kernel_rfl) rfl rfl (by kernel_rfl) 189 #[.int .i64 k] (by kernel_rfl) (HAR.out _) ?_
    rintro e W' ⟨rfl, rfl⟩
    refine ⟨_, rfl, hS, fun hS => ?_⟩
    refine rt_t (i := 6) (some 18) (.bool false) rfl hS (fun W _ => rb_neqI rfl (by kernel_rfl) (by kernel_rfl) dA) ?_
    refine rt_t (i := 7) (some 19) (.bool false) rfl hS (fun W _ => by kernel_rfl) ?_
    refine rt_t (i := 8) (some 20) (.bool false) rfl hS (fun W _ => by kernel_rfl) ?_
    refine rt_t (i := 9) (some 21) (.pointer (some ⟨G, 3, none⟩)) rfl hS (fun W _ => by kernel_rfl) ?_
    refine rt_t (i := 10) (some 22) (.string s) rfl hS (fun W hb => rl_str_ ((HK.out.keep hb).cell (i := 3) (v := .string s) rfl)) ?_
    refine rt_t (i := 11) (some 23) (.bool false) rfl hS (fun W _ => rb_neqS (c := true) rfl (by kernel_rfl) (by kernel_rfl) dS) ?_
    refine rt_t (i := 12) (some 24) (.bool false) rfl hS (fun W _ => by kernel_rfl) ?_
    refine rt_t (i := 13) (some 25) (.bool false) rfl hS (fun W _ => by kernel_rfl) ?_
    refine rt_t (i := 14) (some 26) (.bool false) rfl hS (fun W _ => by kernel_rfl) ?_
    refine rt_t (i := 15) (some 27) (.bool false) rfl hS (fun W _ => by kernel_rfl) ?_
    refine rt_t (i := 16) (some 28) (.bool false) rfl hS (fun W _ => by kernel_rfl) ?_
    refine rt_skip (i := 17) (some 29) rfl rfl (by kernel_rfl) (by kernel_rfl) (by kernel_rfl) (fun _ _ _ h => h) (by kernel_rfl) hS ?_
    refine rt_skip (i := 18) (some 30) rfl rfl (by kernel_rfl) (by kernel_rfl) (by kernel_rfl) (fun _ _ _ h => h) (by kernel_rfl) hS ?_
    refine rt_skip (i := 19) (some 31) rfl rfl (by kernel_rfl) (by kernel_rfl) (by kernel_rfl) (fun _ _ _ h => h) (by kernel_rfl) hS ?_
    refine rt_skip (i := 20) (some 32) rfl rfl (by kernel_rfl) (by kernel_rfl) (by kernel_rfl) (fun _ _ _ h => h) (by kernel_rfl) hS ?_
    refine rt_t (i := 21) (some 33) (.bool false) rfl hS (fun W _ => by kernel_rfl) ?_
    refine rt_t (i := 22) (some 34) (.bool false) rfl hS (fun W _ => by kernel_rfl) ?_
    refine rt_t (i := 23) (some 35) (.bool false) rfl hS (fun W _ => by kernel_rfl) ?_
    refine rt_t (i := 24) (some 36) (.pointer (some ⟨G, 0, none⟩)) rfl hS (fun W _ => by kernel_rfl) ?_
    refine rt_t (i := 25) (some 37) (.int .i64 k) rfl hS (fun W hb => rl_int_ ((HK.out.keep hb).cell (i := 0) (v := .int .i64 k) rfl)) ?_
    refine rt_t (i := 26) (some 38) (.bool true) rfl hS (fun W _ => rb_neqI rfl (by kernel_rfl) (by kernel_rfl) dK) ?_
    refine rt_t (i := 27) (some 39) (.bool true) rfl hS (fun W _ => by kernel_rfl) ?_
    refine rt_t (i := 28) (some 40) (.pointer (some ⟨G, 2, none⟩)) rfl hS (fun W _ => by kernel_rfl) ?_
    refine rt_t (i := 29) (some 41) (.int .i64 n) rfl hS (fun W hb => rl_int_ ((HK.out.keep hb).cell (i := 2) (v := .int .i64 n) rfl)) ?_
    refine rt_t (i := 30) (some 42) (.bool false) rfl hS (fun W _ => rb_neqI rfl (by kernel_rfl) (by kernel_rfl) dZ) ?_
    refine rt_t (i := 31) (some 43) (.bool false) rfl hS (fun W _ => by kernel_rfl) ?_
    refine rt_t (i := 32) (some 44) (.bool false) rfl hS (fun W _ => by kernel_rfl) ?_
    refine wpAnyH_done (by kernel_rfl) ?_ _
    try simp only [Act.put, lA, lB, lC]
    try go_wp2
    go_meet
    exact ⟨by rw [HCB]; rfl, Hi_ hS⟩
   ·have dZ : (n != 0) = true := by simpa using hZ
    have HCB : CB = false := by rw [← HCE.out]; exact decide_eq_false hZ
    refine wp_region_held_drew (S := fun W => Bel WB W) (by kernel_rfl) ((Bel.rfl_ WB).dr) (fun hS => ?_)
    refine rt_t (i := 0) (some 12) (.pointer (some ⟨G, 0, none⟩)) rfl hS (fun W _ => by kernel_rfl) ?_
    refine rt_t (i := 1) (some 13) (.int .i64 k) rfl hS (fun W hb => rl_int_ ((HK.out.keep hb).cell (i := 0) (v := .int .i64 k) rfl)) ?_
    refine rt_t (i := 3) (some 15) (.pointer (some ⟨G, 4, none⟩)) rfl hS (fun W _ => by kernel_rfl) ?_
    refine rt_t (i := 4) (some 16) (.slice A args.length c) rfl hS (fun W hb => rl_es_ ((HK.out.keep hb).cell (i := 4) (v := .slice A args.length c) rfl)) ?_
    refine rt_t (i := 5) (some 17) (.int .i64 args.length) rfl hS (fun W _ => by kernel_rfl) ?_
    refine rt_call (i := 2) (some 14) (by kernel_rfl) rfl rfl (by kernel_rfl) 189 #[.int .i64 k] (by kernel_rfl) (HAR.out _) ?_
    rintro e W' ⟨rfl, rfl⟩
    refine ⟨_, rfl, hS, fun hS => ?_⟩
    refine rt_t (i := 6) (some 18) (.bool false) rfl hS (fun W _ => rb_neqI rfl (by kernel_rfl) (by kernel_rfl) dA) ?_
    refine rt_t (i := 7) (some 19) (.bool false) rfl hS (fun W _ => by kernel_rfl) ?_
    refine rt_t (i := 8) (some 20) (.bool false) rfl hS (fun W _ => by kernel_rfl) ?_
    refine rt_t (i := 9) (some 21) (.pointer (some ⟨G, 3, none⟩)) rfl hS (fun W _ => by kernel_rfl) ?_
    refine rt_t (i := 10) (some 22) (.string s) rfl hS (fun W hb => rl_str_ ((HK.out.keep hb).cell (i := 3) (v := .string s) rfl)) ?_
    refine rt_t (i := 11) (some 23) (.bool false) rfl hS (fun W _ => rb_neqS (c := true) rfl (by kernel_rfl) (by kernel_rfl) dS) ?_
    refine rt_t (i := 12) (some 24) (.bool false) rfl hS (fun W _ => by kernel_rfl) ?_
    refine rt_t (i := 13) (some 25) (.bool false) rfl hS (fun W _ => by kernel_rfl) ?_
    refine rt_t (i := 14) (some 26) (.bool false) rfl hS (fun W _ => by kernel_rfl) ?_
    refine rt_t (i := 15) (some 27) (.bool false) rfl hS (fun W _ => by kernel_rfl) ?_
    refine rt_t (i := 16) (some 28) (.bool false) rfl hS (fun W _ => by kernel_rfl) ?_
    refine rt_skip (i := 17) (some 29) rfl rfl (by kernel_rfl) (by kernel_rfl) (by kernel_rfl) (fun _ _ _ h => h) (by kernel_rfl) hS ?_
    refine rt_skip (i := 18) (some 30) rfl rfl (by kernel_rfl) (by kernel_rfl) (by kernel_rfl) (fun _ _ _ h => h) (by kernel_rfl) hS ?_
    refine rt_skip (i := 19) (some 31) rfl rfl (by kernel_rfl) (by kernel_rfl) (by kernel_rfl) (fun _ _ _ h => h) (by kernel_rfl) hS ?_
    refine rt_skip (i := 20) (some 32) rfl rfl (by kernel_rfl) (by kernel_rfl) (by kernel_rfl) (fun _ _ _ h => h) (by kernel_rfl) hS ?_
    refine rt_t (i := 21) (some 33) (.bool false) rfl hS (fun W _ => by kernel_rfl) ?_
    refine rt_t (i := 22) (some 34) (.bool false) rfl hS (fun W _ => by kernel_rfl) ?_
    refine rt_t (i := 23) (some 35) (.bool false) rfl hS (fun W _ => by kernel_rfl) ?_
    refine rt_t (i := 24) (some 36) (.pointer (some ⟨G, 0, none⟩)) rfl hS (fun W _ => by kernel_rfl) ?_
    refine rt_t (i := 25) (some 37) (.int .i64 k) rfl hS (fun W hb => rl_int_ ((HK.out.keep hb).cell (i := 0) (v := .int .i64 k) rfl)) ?_
    refine rt_t (i := 26) (some 38) (.bool true) rfl hS (fun W _ => rb_neqI rfl (by kernel_rfl) (by kernel_rfl) dK) ?_
    refine rt_t (i := 27) (some 39) (.bool true) rfl hS (fun W _ => by kernel_rfl) ?_
    refine rt_t (i := 28) (some 40) (.pointer (some ⟨G, 2, none⟩)) rfl hS (fun W _ => by kernel_rfl) ?_
    refine rt_t (i := 29) (some 41) (.int .i64 n) rfl hS (fun W hb => rl_int_ ((HK.out.keep hb).cell (i := 2) (v := .int .i64 n) rfl)) ?_
    refine rt_t (i := 30) (some 42) (.bool true) rfl hS (fun W _ => rb_neqI rfl (by kernel_rfl) (by kernel_rfl) dZ) ?_
    refine rt_t (i := 31) (some 43) (.bool true) rfl hS (fun W _ => by kernel_rfl) ?_
    refine rt_t (i := 32) (some 44) (.bool true) rfl hS (fun W _ => by kernel_rfl) ?_
    refine wpAnyH_done (by kernel_rfl) ?_ _
    try simp only [Act.put, lA, lB, lC]
    try go_wp2
    go_meet
    exact ⟨by rw [HCB]; rfl, Hi_ hS⟩
 case rest =>
  obtain ⟨rfl, HX⟩ := hcut
  clear HNM2
  cases CB with
  | false =>
   have HR : Hid (false = T) := Hi_ (by rw [← HT.out, Bool.false_and])
   go_wp2
   go_ret
   exact ⟨by rw [← HR.out]; rfl, HB.out.tr HX.out⟩
  | true =>
   rw [Bool.true_and] at HT
   have hkz : k = 1 ∨ n = 0 := by
    have := HCE.out
    simp only [Bool.and_eq_true, Bool.or_eq_true, decide_eq_true_eq] at this
    exact this.2.2
   have c2 := (HK.out.keep HX.out).cell (i := 2) (v := .int .i64 n) rfl
   clear HCE
   by_cases hlo : n < -9999999
   ·have d1 : decide (n < -9999999) = true := decide_eq_true hlo
    have hk1 : k = 1 := by omega
    have HR : Hid (false = T) := Hi_ (by rw [← HT.out, decide_eq_true hk1, decide_eq_false (by omega)]; rfl)
    clear hkz hk1
    go_wp2
    go_ret
    exact ⟨by rw [← HR.out]; rfl, HB.out.tr HX.out⟩
   have d1 : decide (n < -9999999) = false := decide_eq_false hlo
   by_cases hhi : 9999999 < n
   ·have d2 : decide (9999999 < n) = true := decide_eq_true hhi
    have hk1 : k = 1 := by omega
    have HR : Hid (false = T) := Hi_ (by rw [← HT.out, decide_eq_true hk1, decide_eq_false (by omega)]; rfl)
    clear hkz hk1
    go_wp2
    go_ret
    exact ⟨by rw [← HR.out]; rfl, HB.out.tr HX.out⟩
   have d2 : decide (9999999 < n) = false := decide_eq_false hhi
   have HR : Hid (ba = T) := Hi_ (by rw [← HT.out, show decide (-9999999 ≤ n ∧ n ≤ 9999999) = true from decide_eq_true (by omega), Bool.or_true, Bool.true_and])
   have c4 := (HK.out.keep HX.out).cell (i := 4) (v := .slice A args.length c) rfl
   clear hkz HT
   go_wp2_with fail
   refine (HAL.out _ (HB.out.tr HX.out)).mono ?_
   rintro r w1 ⟨rfl, hb⟩
   have HB1 := Hi_ ((HB.out.tr HX.out).tr hb)
   clear hb c2 c4
   go_wp2
   go_ret
   exact ⟨by rw [← HR.out]; rfl, HB1.out⟩
theorem expr_any : ∀ (e : TE) (val : Value) (w : World), TEV w e val → Calls Tryz.prog 150 #[val] w fun r w' => r = .returned (.bool e.ok) ∧ Bel w w' :=
 TE.ind fun k a n s args ih val w h => expr_step k a n s args ih val w h
end Go.Proofs.YtmfjlcpjemccmaaGreatDoor
