/- Numbers of a run, and what two of them make, by the program: walked. Numbers of a run, and what two of them make, by the document: walked. Each lemma states its own conditions. -/
import Derived.Test.YtgkpplbomciehaaTev23
namespace Go.Proofs.Ytgkpplbomciehaa
open Go.RowKit
theorem number_any (n : Int) (w : World) : Calls Try.prog 69 #[.int .i64 n] w fun r w' => r = .returned (.bool (decide (Num n))) ∧ w = w' := by
  have HN : Hid (decide (Num n) = (decide (-2147483648 ≤ n) && decide (n ≤ 2147483647))) := Lib.hid (by rw [Bool.eq_iff_iff, decide_eq_true_iff, Bool.and_eq_true, decide_eq_true_iff, decide_eq_true_iff]; exact Iff.rfl)
  generalize decide (Num n) = T at *
  by_cases h1 : n ≥ -2147483648
  · have d1 : decide (n ≥ -2147483648) = true := decide_eq_true h1
    by_cases h2 : n ≤ 2147483647
    · have d2 : decide (n ≤ 2147483647) = true := decide_eq_true h2
      have HR : Hid (T = true) := Lib.hid (by rw [HN.out, decide_eq_true (show -2147483648 ≤ n from h1), d2]; rfl)
      clear HN
      go_enter Try.func69, Try.ntmps69
      go_wp2
      go_ret
      exact ⟨by rw [HR.out]; rfl, rfl⟩
    · have d2 : decide (n ≤ 2147483647) = false := decide_eq_false h2
      have HR : Hid (T = false) := Lib.hid (by rw [HN.out, d2, Bool.and_false])
      clear HN
      go_enter Try.func69, Try.ntmps69
      go_wp2
      go_ret
      exact ⟨by rw [HR.out]; rfl, rfl⟩
  · have d1 : decide (n ≥ -2147483648) = false := decide_eq_false h1
    have HR : Hid (T = false) := Lib.hid (by rw [HN.out, decide_eq_false (show ¬ -2147483648 ≤ n from h1), Bool.false_and])
    clear HN
    go_enter Try.func69, Try.ntmps69
    go_wp2
    go_ret
    exact ⟨by rw [HR.out]; rfl, rfl⟩
theorem truth_any (b : Bool) (w : World) : Calls Try.prog 146 #[.bool b] w fun r w' => r = .returned (.int .i64 (if b then 1 else 0)) ∧ w = w' := by
  cases b with
  | true =>
    go_enter Try.func146, Try.ntmps146
    go_wp2
    go_ret
    exact ⟨rfl, rfl⟩
  | false =>
    go_enter Try.func146, Try.ntmps146
    go_wp2
    go_ret
    exact ⟨rfl, rfl⟩
theorem w32 (x : Int) : IntKind.i32.wrap (IntKind.i64.wrap x) = wrap x := by
  rw [IntKind.wrap_i32, IntKind.wrap_i64]
  unfold wrap
  omega
theorem wAA (x : Int) : wrap64 (wrap32 (wrap64 x)) = wrap x := by
  unfold wrap64 wrap32 wrap
  omega
theorem wCC (x : Int) : wrap (wrap64 x) = wrap x := by
  unfold wrap64 wrap
  omega
theorem wBB (x : Int) : wrap64 (wrap32 x) = wrap x := by
  unfold wrap64 wrap32 wrap
  omega
set_option maxRecDepth 20000 in
set_option maxHeartbeats 4000000 in
theorem op_any (k a b : Int) (w : World) : Calls Try.prog 112 #[.int .i64 k, .int .i64 a, .int .i64 b] w fun r w' => r = .returned (.tuple #[.int .i64 (opV k a b).1, .int .i64 (opV k a b).2]) ∧ w = w' := by
  have HO : Hid (opV k a b = if k = 4 then (wrap (a + b), 0) else if k = 5 then (wrap (a - b), 0) else if k = 6 then (wrap (a * b), 0) else if k = 7 ∨ k = 8 then (if b = 0 then (0, 2) else if k = 7 then (wrap (a.tdiv b), 0) else (wrap (a.tmod b), 0)) else if (k = 9 ∧ a < b) ∨ (k = 10 ∧ a = b) then (1, 0) else (0, 0)) := Lib.hid rfl
  generalize opV k a b = T at *
  by_cases k4 : k = 4
  · subst k4
    have HR : Hid (T = (wrap (a + b), 0)) := Lib.hid (by rw [HO.out, if_pos rfl])
    clear HO
    go_enter Try.func112, Try.ntmps112
    go_wp2
    go_ret2
    exact ⟨by rw [HR.out]; simp [wBB, wCC], rfl⟩
  by_cases k5 : k = 5
  · subst k5
    have HR : Hid (T = (wrap (a - b), 0)) := Lib.hid (by rw [HO.out, if_neg (by decide), if_pos rfl])
    clear HO
    go_enter Try.func112, Try.ntmps112
    go_wp2
    go_ret2
    exact ⟨by rw [HR.out]; simp [wBB, wCC], rfl⟩
  by_cases k6 : k = 6
  · subst k6
    have HR : Hid (T = (wrap (a * b), 0)) := Lib.hid (by rw [HO.out, if_neg (by decide), if_neg (by decide), if_pos rfl])
    clear HO
    go_enter Try.func112, Try.ntmps112
    go_wp2
    go_ret2
    exact ⟨by rw [HR.out]; simp [wBB, wCC], rfl⟩
  have e4 : (k == 4) = false := by simpa using k4
  have e5 : (k == 5) = false := by simpa using k5
  have e6 : (k == 6) = false := by simpa using k6
  by_cases k7 : k = 7
  · subst k7
    by_cases hb : b = 0
    · subst hb
      have HR : Hid (T = (0, 2)) := Lib.hid (by rw [HO.out, if_neg (by decide), if_neg (by decide), if_neg (by decide), if_pos (Or.inl rfl), if_pos rfl])
      clear HO
      go_enter Try.func112, Try.ntmps112
      go_wp2
      go_ret2
      exact ⟨by rw [HR.out]; rfl, rfl⟩
    · have eb : (b == 0) = false := by simpa using hb
      have HR : Hid (T = (wrap (a.tdiv b), 0)) := Lib.hid (by rw [HO.out, if_neg (by decide), if_neg (by decide), if_neg (by decide), if_pos (Or.inl rfl), if_neg hb, if_pos rfl])
      clear HO
      go_enter Try.func112, Try.ntmps112
      go_wp2
      go_ret2
      exact ⟨by rw [HR.out]; simp [wBB, wCC], rfl⟩
  by_cases k8 : k = 8
  · subst k8
    by_cases hb : b = 0
    · subst hb
      have HR : Hid (T = (0, 2)) := Lib.hid (by rw [HO.out, if_neg (by decide), if_neg (by decide), if_neg (by decide), if_pos (Or.inr rfl), if_pos rfl])
      clear HO
      go_enter Try.func112, Try.ntmps112
      go_wp2
      go_ret2
      exact ⟨by rw [HR.out]; rfl, rfl⟩
    · have eb : (b == 0) = false := by simpa using hb
      have HR : Hid (T = (wrap (a.tmod b), 0)) := Lib.hid (by rw [HO.out, if_neg (by decide), if_neg (by decide), if_neg (by decide), if_pos (Or.inr rfl), if_neg hb, if_neg (by decide)])
      clear HO
      go_enter Try.func112, Try.ntmps112
      go_wp2
      go_ret2
      exact ⟨by rw [HR.out]; simp [wBB], rfl⟩
  have e7 : (k == 7) = false := by simpa using k7
  have e8 : (k == 8) = false := by simpa using k8
  replace HO : Hid (T = if (k = 9 ∧ a < b) ∨ (k = 10 ∧ a = b) then (1, 0) else (0, 0)) := Lib.hid (by rw [HO.out, if_neg k4, if_neg k5, if_neg k6, if_neg (by omega)])
  clear k4 k5 k6 k7 k8
  by_cases k9 : k = 9
  · subst k9
    have HR : Hid (T = ((if decide (a < b) then 1 else 0), 0)) := Lib.hid (by
      rw [HO.out]
      by_cases h : a < b
      · rw [if_pos (Or.inl ⟨rfl, h⟩), decide_eq_true h]; rfl
      · rw [if_neg (by omega), decide_eq_false h]; rfl)
    clear HO
    generalize hd : decide (a < b) = d at *
    go_enter Try.func112, Try.ntmps112
    go_wp2_with fail
    refine (truth_any _ _).mono ?_
    rintro r w1 ⟨rfl, rfl⟩
    cases d with
    | true =>
      go_wp2
      go_ret2
      exact ⟨by rw [HR.out]; rfl, rfl⟩
    | false =>
      go_wp2
      go_ret2
      exact ⟨by rw [HR.out]; rfl, rfl⟩
  have e9 : (k == 9) = false := by simpa using k9
  by_cases k10 : k = 10
  · subst k10
    have HR : Hid (T = ((if (a == b) then 1 else 0), 0)) := Lib.hid (by
      rw [HO.out]
      by_cases h : a = b
      · rw [if_pos (Or.inr ⟨rfl, h⟩), show (a == b) = true by simpa using h]; rfl
      · rw [if_neg (by omega), show (a == b) = false by simpa using h]; rfl)
    clear HO
    generalize hd : (a == b) = d at *
    go_enter Try.func112, Try.ntmps112
    go_wp2_with fail
    refine (truth_any _ _).mono ?_
    rintro r w1 ⟨rfl, rfl⟩
    cases d with
    | true =>
      go_wp2
      go_ret2
      exact ⟨by rw [HR.out]; rfl, rfl⟩
    | false =>
      go_wp2
      go_ret2
      exact ⟨by rw [HR.out]; rfl, rfl⟩
  · have e10 : (k == 10) = false := by simpa using k10
    have HR : Hid (T = (0, 0)) := Lib.hid (by rw [HO.out, if_neg (by omega)])
    clear HO
    go_enter Try.func112, Try.ntmps112
    go_wp2
    go_ret2
    exact ⟨by rw [HR.out]; rfl, rfl⟩
theorem tmod_is (n : Int) : ∃ r, n.tmod 4294967296 = r ∧ -4294967296 < r ∧ r < 4294967296 ∧ ((r < -2147483648 ∧ wrap n = r + 4294967296) ∨ (-2147483648 ≤ r ∧ r ≤ 2147483647 ∧ wrap n = r) ∨ (2147483647 < r ∧ wrap n = r - 4294967296)) := by
  refine ⟨_, rfl, ?_⟩
  unfold wrap
  rcases Int.lt_or_le n 0 with h | h
  · have e : n.tmod 4294967296 = -((-n) % 4294967296) := by
      have := Int.neg_tmod (-n) 4294967296
      rw [Int.neg_neg] at this
      rw [this, Int.tmod_eq_emod_of_nonneg (by omega)]
    rw [e]
    omega
  · rw [Int.tmod_eq_emod_of_nonneg h]
    omega
set_option maxRecDepth 20000 in
set_option maxHeartbeats 4000000 in
theorem wrap_any (n : Int) (w : World) : Calls Try.prog 113 #[.int .i64 n] w fun r w' => r = .returned (.int .i64 (wrap n)) ∧ w = w' := by
  obtain ⟨r, hr, h1, h2, h3⟩ := tmod_is n
  have HR := Lib.hid h3
  generalize wrap n = T at *
  go_enter Try.func113, Try.ntmps113
  by_cases c0 : r < 0
  · have d0 : decide (r < 0) = true := decide_eq_true c0
    by_cases c1 : r + 4294967296 > 2147483647
    · have d1 : decide (r + 4294967296 > 2147483647) = true := decide_eq_true c1
      go_wp2
      go_ret
      exact ⟨ret_int (by have := HR.out; omega), rfl⟩
    · have d1 : decide (r + 4294967296 > 2147483647) = false := decide_eq_false c1
      go_wp2
      go_ret
      exact ⟨ret_int (by have := HR.out; omega), rfl⟩
  · have d0 : decide (r < 0) = false := decide_eq_false c0
    by_cases c1 : r > 2147483647
    · have d1 : decide (r > 2147483647) = true := decide_eq_true c1
      go_wp2
      go_ret
      exact ⟨ret_int (by have := HR.out; omega), rfl⟩
    · have d1 : decide (r > 2147483647) = false := decide_eq_false c1
      go_wp2
      go_ret
      exact ⟨ret_int (by have := HR.out; omega), rfl⟩
theorem isNumber_any (n : Int) (w : World) : Calls Try.prog 49 #[.int .i64 n] w fun r w' => r = .returned (.bool (decide (Num n))) ∧ w = w' := by
  have HN : Hid (decide (-2147483648 ≤ n ∧ n ≤ 2147483647) = decide (Num n)) := Lib.hid (by rw [Bool.eq_iff_iff, decide_eq_true_iff, decide_eq_true_iff]; exact Iff.rfl)
  generalize decide (Num n) = T at *
  go_enter Try.func49, Try.ntmps49
  go_wp2_with fail
  refine (between_any _ _ _ _).mono ?_
  rintro r w1 ⟨rfl, rfl⟩
  rw [HN.out]
  go_wp2
  go_ret
  exact ⟨rfl, rfl⟩
set_option maxRecDepth 20000 in
set_option maxHeartbeats 4000000 in
theorem opOf_any (k a b : Int) (w : World) : Calls Try.prog 71 #[.int .i64 k, .int .i64 a, .int .i64 b] w fun r w' => r = .returned (.tuple #[.int .i64 (opV k a b).1, .int .i64 (opV k a b).2]) ∧ w = w' := by
  have HO : Hid (opV k a b = if k = 4 then (wrap (a + b), 0) else if k = 5 then (wrap (a - b), 0) else if k = 6 then (wrap (a * b), 0) else if k = 7 ∨ k = 8 then (if b = 0 then (0, 2) else if k = 7 then (wrap (a.tdiv b), 0) else (wrap (a.tmod b), 0)) else if (k = 9 ∧ a < b) ∨ (k = 10 ∧ a = b) then (1, 0) else (0, 0)) := Lib.hid rfl
  generalize opV k a b = T at *
  by_cases k4 : k = 4
  · subst k4
    have HR : Hid (T = (wrap (a + b), 0)) := Lib.hid (by rw [HO.out, if_pos rfl])
    clear HO
    go_enter Try.func71, Try.ntmps71
    go_wp2_with fail
    refine (wrap_any _ _).mono ?_
    rintro r w1 ⟨rfl, rfl⟩
    go_wp2
    go_ret2
    exact ⟨by rw [HR.out]; simp [wCC], rfl⟩
  by_cases k5 : k = 5
  · subst k5
    have HR : Hid (T = (wrap (a - b), 0)) := Lib.hid (by rw [HO.out, if_neg (by decide), if_pos rfl])
    clear HO
    go_enter Try.func71, Try.ntmps71
    go_wp2_with fail
    refine (wrap_any _ _).mono ?_
    rintro r w1 ⟨rfl, rfl⟩
    go_wp2
    go_ret2
    exact ⟨by rw [HR.out]; simp [wCC], rfl⟩
  by_cases k6 : k = 6
  · subst k6
    have HR : Hid (T = (wrap (a * b), 0)) := Lib.hid (by rw [HO.out, if_neg (by decide), if_neg (by decide), if_pos rfl])
    clear HO
    go_enter Try.func71, Try.ntmps71
    go_wp2_with fail
    refine (wrap_any _ _).mono ?_
    rintro r w1 ⟨rfl, rfl⟩
    go_wp2
    go_ret2
    exact ⟨by rw [HR.out]; simp [wCC], rfl⟩
  have e4 : (k == 4) = false := by simpa using k4
  have e5 : (k == 5) = false := by simpa using k5
  have e6 : (k == 6) = false := by simpa using k6
  by_cases k7 : k = 7
  · subst k7
    by_cases hb : b = 0
    · subst hb
      have HR : Hid (T = (0, 2)) := Lib.hid (by rw [HO.out, if_neg (by decide), if_neg (by decide), if_neg (by decide), if_pos (Or.inl rfl), if_pos rfl])
      clear HO
      go_enter Try.func71, Try.ntmps71
      go_wp2
      go_ret2
      exact ⟨by rw [HR.out]; rfl, rfl⟩
    have eb : (b == 0) = false := by simpa using hb
    have HR : Hid (T = (wrap (a.tdiv b), 0)) := Lib.hid (by rw [HO.out, if_neg (by decide), if_neg (by decide), if_neg (by decide), if_pos (Or.inl rfl), if_neg hb, if_pos rfl])
    clear HO
    go_enter Try.func71, Try.ntmps71
    go_wp2_with fail
    refine (wrap_any _ _).mono ?_
    rintro r w1 ⟨rfl, rfl⟩
    go_wp2
    go_ret2
    exact ⟨by rw [HR.out]; simp [wCC], rfl⟩
  by_cases k8 : k = 8
  · subst k8
    by_cases hb : b = 0
    · subst hb
      have HR : Hid (T = (0, 2)) := Lib.hid (by rw [HO.out, if_neg (by decide), if_neg (by decide), if_neg (by decide), if_pos (Or.inr rfl), if_pos rfl])
      clear HO
      go_enter Try.func71, Try.ntmps71
      go_wp2
      go_ret2
      exact ⟨by rw [HR.out]; rfl, rfl⟩
    have eb : (b == 0) = false := by simpa using hb
    have HR : Hid (T = (wrap (a.tmod b), 0)) := Lib.hid (by rw [HO.out, if_neg (by decide), if_neg (by decide), if_neg (by decide), if_pos (Or.inr rfl), if_neg hb, if_neg (by decide)])
    clear HO
    go_enter Try.func71, Try.ntmps71
    go_wp2_with fail
    refine (wrap_any _ _).mono ?_
    rintro r w1 ⟨rfl, rfl⟩
    go_wp2
    go_ret2
    exact ⟨by rw [HR.out]; simp [], rfl⟩
  have e7 : (k == 7) = false := by simpa using k7
  have e8 : (k == 8) = false := by simpa using k8
  replace HO : Hid (T = if (k = 9 ∧ a < b) ∨ (k = 10 ∧ a = b) then (1, 0) else (0, 0)) := Lib.hid (by rw [HO.out, if_neg k4, if_neg k5, if_neg k6, if_neg (by omega)])
  clear k4 k5 k6 k7 k8
  by_cases k9 : k = 9
  · subst k9
    by_cases hd : a < b
    · have dd : decide (a < b) = true := decide_eq_true hd
      have HR : Hid (T = (1, 0)) := Lib.hid (by rw [HO.out, if_pos (Or.inl ⟨rfl, hd⟩)])
      clear HO
      go_enter Try.func71, Try.ntmps71
      go_wp2
      go_ret2
      exact ⟨by rw [HR.out]; rfl, rfl⟩
    · have dd : decide (a < b) = false := decide_eq_false hd
      have HR : Hid (T = (0, 0)) := Lib.hid (by rw [HO.out, if_neg (by omega)])
      clear HO
      go_enter Try.func71, Try.ntmps71
      go_wp2
      go_ret2
      exact ⟨by rw [HR.out]; rfl, rfl⟩
  have e9 : (k == 9) = false := by simpa using k9
  by_cases k10 : k = 10
  · subst k10
    by_cases hd : a = b
    · have dd : (a == b) = true := by simpa using hd
      have HR : Hid (T = (1, 0)) := Lib.hid (by rw [HO.out, if_pos (Or.inr ⟨rfl, hd⟩)])
      clear HO hd
      go_enter Try.func71, Try.ntmps71
      go_wp2
      go_ret2
      exact ⟨by rw [HR.out]; rfl, rfl⟩
    · have dd : (a == b) = false := by simpa using hd
      have HR : Hid (T = (0, 0)) := Lib.hid (by rw [HO.out, if_neg (by omega)])
      clear HO
      go_enter Try.func71, Try.ntmps71
      go_wp2
      go_ret2
      exact ⟨by rw [HR.out]; rfl, rfl⟩
  have e10 : (k == 10) = false := by simpa using k10
  have HR : Hid (T = (0, 0)) := Lib.hid (by rw [HO.out, if_neg (by omega)])
  clear HO
  go_enter Try.func71, Try.ntmps71
  go_wp2
  go_ret2
  exact ⟨by rw [HR.out]; rfl, rfl⟩
end Go.Proofs.Ytgkpplbomciehaa
