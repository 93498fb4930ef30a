/- Walks of commands in plain words: each ahead of those in it, till one says no. Each lemma states its own conditions. -/
import Derived.Test.YtgkpplbomciehaaCdt04
namespace Go.Proofs.Ytgkpplbomciehaa
open Go.RowKit
/-- on, if the first one says so -/
def thenW (a : Int × Bool) (k : Int → Int × Bool) : Int × Bool :=
  match a with
  | (s, true) => k s
  | (s, false) => (s, false)
mutual
def PC.walk (f : Int → PC → Int → Int × Bool) : PC → Int → Int → Int × Bool
  | .mk k v g i e args thn els, d, s => thenW (f s (.mk k v g i e args thn els) d) fun s1 => thenW (walkL f thn (d + 1) s1) fun s2 => walkL f els (d + 1) s2
def walkL (f : Int → PC → Int → Int × Bool) : List PC → Int → Int → Int × Bool
  | [], _, s => (s, true)
  | x :: xs, d, s => thenW (x.walk f d s) fun s1 => walkL f xs d s1
end
mutual
/-- what must hold whenever something is done -/
def PC.okw (f : Int → PC → Int → Int × Bool) (Ok : PC → Int → Int → Prop) : PC → Int → Int → Prop
  | .mk k v g i e args thn els, d, s => Ok (.mk k v g i e args thn els) d s ∧ ∀ s1, f s (.mk k v g i e args thn els) d = (s1, true) →
      okwL f Ok thn (d + 1) s1 ∧ ∀ s2, walkL f thn (d + 1) s1 = (s2, true) → okwL f Ok els (d + 1) s2
def okwL (f : Int → PC → Int → Int × Bool) (Ok : PC → Int → Int → Prop) : List PC → Int → Int → Prop
  | [], _, _ => True
  | x :: xs, d, s => x.okw f Ok d s ∧ ∀ s1, x.walk f d s = (s1, true) → okwL f Ok xs d s1
end
section
variable {f : Int → PC → Int → Int × Bool} {Ok : PC → Int → Int → Prop} {l : List PC} {k : Nat} {x : PC} {d s : Int}
theorem walkL_drop (hx : l[k]? = some x) (d s : Int) : walkL f (l.drop k) d s = thenW (x.walk f d s) fun s1 => walkL f (l.drop (k + 1)) d s1 := by
  obtain ⟨hl, rfl⟩ := List.getElem?_eq_some_iff.1 hx
  rw [List.drop_eq_getElem_cons hl, walkL]
theorem walkL_end (h : l.length ≤ k) (d s : Int) : walkL f (l.drop k) d s = (s, true) := by rw [List.drop_eq_nil_of_le h, walkL]
theorem okwL_drop (hx : l[k]? = some x) (h : okwL f Ok (l.drop k) d s) : x.okw f Ok d s ∧ ∀ s1, x.walk f d s = (s1, true) → okwL f Ok (l.drop (k + 1)) d s1 := by
  obtain ⟨hl, rfl⟩ := List.getElem?_eq_some_iff.1 hx
  rw [List.drop_eq_getElem_cons hl, okwL] at h
  exact h
theorem PC.walk_eq (f : Int → PC → Int → Int × Bool) (x : PC) (d s : Int) : x.walk f d s = thenW (f s x d) fun s1 => thenW (walkL f x.thn (d + 1) s1) fun s2 => walkL f x.els (d + 1) s2 := by
  obtain ⟨k, v, g, i, e, args, thn, els⟩ := x
  rw [PC.walk]; rfl
theorem PC.okw_eq : x.okw f Ok d s ↔ Ok x d s ∧ ∀ s1, f s x d = (s1, true) → okwL f Ok x.thn (d + 1) s1 ∧ ∀ s2, walkL f x.thn (d + 1) s1 = (s2, true) → okwL f Ok x.els (d + 1) s2 := by
  obtain ⟨k, v, g, i, e, args, thn, els⟩ := x
  rw [PC.okw]; exact Iff.rfl
/-- by what holds of those within -/
theorem PC.ind2 {p : PC → Prop} (h : ∀ x : PC, (∀ y ∈ x.thn, p y) → (∀ y ∈ x.els, p y) → p x) : ∀ x, p x :=
  PC.ind fun _ _ _ _ _ _ _ _ h1 h2 => h _ h1 h2
end
theorem cntP_cons (x : PC) (l : List PC) : cntP (x :: l) = x.cnt + cntP l := by rw [cntP]
/-- all of them counted -/
def fMany (s : Int) (_ : PC) (_ : Int) : Int × Bool := (s + 1, true)
/-- numbers and depths that are small -/
def OkM (_ : PC) (d s : Int) : Prop := 0 ≤ s ∧ s ≤ 1000 ∧ 0 ≤ d ∧ d ≤ 6
theorem many_list : ∀ {l : List PC}, (∀ x ∈ l, ∀ d s : Int, x.walk fMany d s = (s + x.cnt, true)) → ∀ d s : Int, walkL fMany l d s = (s + cntP l, true)
  | [], _, d, s => by rw [walkL, cntP]; simp
  | x :: xs, h, d, s => by
    rw [walkL, h x (by simp), thenW, many_list fun y hy => h y (by simp [hy])]
    rw [cntP_cons]
    congr 1
    omega
theorem many_walk : ∀ x : PC, ∀ d s : Int, x.walk fMany d s = (s + x.cnt, true) :=
  PC.ind2 fun x h1 h2 d s => by
    rw [PC.walk_eq, PC.cnt_eq, fMany, thenW, many_list h1, thenW, many_list h2]
    congr 1
    omega
theorem manyL_walk (l : List PC) (d s : Int) : walkL fMany l d s = (s + cntP l, true) := many_list (fun x _ => many_walk x) d s
theorem many_okl : ∀ {l : List PC}, (∀ x ∈ l, ∀ d s : Int, x.fine d = true → d ≤ 5 → 0 ≤ d → 0 ≤ s → s + x.cnt ≤ 1000 → x.okw fMany OkM d s) → ∀ d s : Int, fineP l d = true → 0 ≤ d → 0 ≤ s → s + cntP l ≤ 1000 → okwL fMany OkM l d s
  | [], _, _, _, _, _, _, _ => by rw [okwL]; trivial
  | x :: xs, h, d, s, hf, hd0, hs, hs2 => by
    obtain ⟨f1, f2, f3⟩ := fineP_head hf
    rw [cntP_cons] at hs2
    rw [okwL, many_walk]
    refine ⟨h x (by simp) d s f2 f1 hd0 hs (by omega), fun s1 he => ?_⟩
    injection he with he _
    subst he
    exact many_okl (fun y hy => h y (by simp [hy])) d _ f3 hd0 (by omega) (by omega)
theorem many_ok : ∀ x : PC, ∀ d s : Int, x.fine d = true → d ≤ 5 → 0 ≤ d → 0 ≤ s → s + x.cnt ≤ 1000 → x.okw fMany OkM d s :=
  PC.ind2 fun x h1 h2 d s hf hd hd0 hs hs2 => by
    obtain ⟨f1, f2⟩ := PC.fine_in hf
    rw [PC.cnt_eq] at hs2
    rw [PC.okw_eq]
    refine ⟨⟨by omega, by omega, by omega, by omega⟩, fun s1 he => ?_⟩
    rw [fMany] at he
    injection he with he _
    subst he
    refine ⟨many_okl h1 _ _ f1 (by omega) (by omega) (by omega), fun s2 he => ?_⟩
    rw [manyL_walk] at he
    injection he with he _
    subst he
    exact many_okl h2 _ _ f2 (by omega) (by omega) (by omega)
theorem manyL_ok (l : List PC) (d s : Int) : fineP l d = true → 0 ≤ d → 0 ≤ s → s + cntP l ≤ 1000 → okwL fMany OkM l d s := many_okl (fun x _ => many_ok x) d s
/-- not too many of them, nor too deep -/
def fFew (s : Int) (_ : PC) (d : Int) : Int × Bool := (s + 1, decide (s + 1 ≤ 40) && decide (d ≤ 5))
/-- what a walk that counts comes to -/
def FewIs (ok : Bool) (n s : Int) (r : Int × Bool) : Prop := (r.2 = true ↔ ok = true ∧ n ≤ 40) ∧ (r.2 = true → r.1 = n) ∧ s ≤ r.1 ∧ r.1 ≤ 41
theorem few_list : ∀ {l : List PC}, (∀ x ∈ l, ∀ d s : Int, 0 ≤ s → s ≤ 40 → 0 ≤ d → d ≤ 6 → FewIs (decide (d ≤ 5) && x.fine d) (s + x.cnt) s (x.walk fFew d s) ∧ x.okw fFew OkM d s) → ∀ d s : Int, 0 ≤ s → s ≤ 40 → 0 ≤ d → d ≤ 6 → FewIs (fineP l d) (s + cntP l) s (walkL fFew l d s) ∧ okwL fFew OkM l d s
  | [], _, d, s, hs, hs2, _, _ => by
    rw [walkL, okwL, fineP, cntP]
    exact ⟨⟨by simp; omega, fun _ => by simp, by simp, by simp; omega⟩, trivial⟩
  | x :: xs, h, d, s, hs, hs2, hd0, hd => by
    obtain ⟨a0, a5⟩ := h x (by simp) d s hs hs2 hd0 hd
    rw [walkL, okwL, fineP_cons, cntP_cons]
    rcases hr : x.walk fFew d s with ⟨s1, b1⟩
    rw [hr] at a0
    obtain ⟨a1, a2, a3, a4⟩ := a0
    try dsimp only at a1 a2 a3 a4
    cases b1 with
    | false =>
      rw [thenW]
      refine ⟨⟨⟨fun h => absurd h Bool.false_ne_true, fun ⟨h1, h2⟩ => ?_⟩, fun h => absurd h Bool.false_ne_true, a3, a4⟩, a5, fun s2 he => by injection he with _ he; cases he⟩
      rw [Bool.and_eq_true] at h1
      exact absurd (a1.2 ⟨h1.1, by omega⟩) (by decide)
    | true =>
      obtain ⟨c1, c2⟩ := a1.1 rfl
      obtain rfl := a2 rfl
      rw [thenW]
      obtain ⟨⟨b1, b2, b3, b4⟩, b5⟩ := few_list (l := xs) (fun y hy => h y (List.mem_cons_of_mem _ hy)) d (s + x.cnt) (by omega) (by omega) hd0 hd
      refine ⟨⟨?_, fun h => by rw [b2 h]; omega, by omega, b4⟩, a5, fun s2 he => by injection he with he _; subst he; exact b5⟩
      rw [b1, c1, Bool.true_and]
      refine and_congr Iff.rfl ?_
      omega
theorem few_walk : ∀ x : PC, ∀ d s : Int, 0 ≤ s → s ≤ 40 → 0 ≤ d → d ≤ 6 → FewIs (decide (d ≤ 5) && x.fine d) (s + x.cnt) s (x.walk fFew d s) ∧ x.okw fFew OkM d s :=
  PC.ind2 fun x ih1 ih2 d s hs hs2 hd0 hd => by
    rw [PC.walk_eq, PC.cnt_eq, PC.fine_eq, PC.okw_eq]
    have hok : OkM x d s := ⟨by omega, by omega, by omega, by omega⟩
    by_cases hb : s + 1 ≤ 40 ∧ d ≤ 5
    · have e0 : fFew s x d = (s + 1, true) := by unfold fFew; rw [decide_eq_true hb.1, decide_eq_true hb.2]; rfl
      rw [e0, thenW, decide_eq_true hb.2, Bool.true_and]
      obtain ⟨a0, a5⟩ := few_list ih1 (d + 1) (s + 1) (by omega) (by omega) (by omega) (by omega)
      rcases hr : walkL fFew x.thn (d + 1) (s + 1) with ⟨s1, b1⟩
      rw [hr] at a0
      obtain ⟨a1, a2, a3, a4⟩ := a0
      try dsimp only at a1 a2 a3 a4
      cases b1 with
      | false =>
        rw [thenW]
        refine ⟨⟨⟨fun h => absurd h Bool.false_ne_true, fun ⟨h1, h2⟩ => ?_⟩, fun h => absurd h Bool.false_ne_true, by omega, a4⟩, hok, fun s2 he => ?_⟩
        · rw [Bool.and_eq_true] at h1
          exact absurd (a1.2 ⟨h1.1, by omega⟩) (by decide)
        · injection he with he _
          subst he
          exact ⟨a5, fun s3 he => by rw [hr] at he; injection he with _ he; cases he⟩
      | true =>
        obtain ⟨c1, c2⟩ := a1.1 rfl
        obtain rfl := a2 rfl
        rw [thenW]
        obtain ⟨⟨b1, b2, b3, b4⟩, b5⟩ := few_list ih2 (d + 1) (s + 1 + cntP x.thn) (by omega) (by omega) (by omega) (by omega)
        refine ⟨⟨?_, fun h => by rw [b2 h]; omega, by omega, b4⟩, hok, fun s2 he => ?_⟩
        · rw [b1, c1, Bool.true_and]
          refine and_congr Iff.rfl ?_
          omega
        · injection he with he _
          subst he
          exact ⟨a5, fun s3 he => by rw [hr] at he; injection he with he _; subst he; exact b5⟩
    · have e0 : fFew s x d = (s + 1, false) := by
        unfold fFew
        congr 1
        rw [Bool.and_eq_false_iff]
        by_cases h40 : s + 1 ≤ 40
        · exact Or.inr (decide_eq_false fun h5 => hb ⟨h40, h5⟩)
        · exact Or.inl (decide_eq_false h40)
      rw [e0, thenW]
      refine ⟨⟨⟨fun h => absurd h Bool.false_ne_true, fun ⟨h1, h2⟩ => ?_⟩, fun h => absurd h Bool.false_ne_true, by omega, by omega⟩, hok, fun s2 he => by injection he with _ he; cases he⟩
      rw [Bool.and_eq_true] at h1
      have := of_decide_eq_true h1.1
      omega
theorem fewL_walk (l : List PC) (d s : Int) : 0 ≤ s → s ≤ 40 → 0 ≤ d → d ≤ 6 → FewIs (fineP l d) (s + cntP l) s (walkL fFew l d s) ∧ okwL fFew OkM l d s := few_list (fun x _ => few_walk x) d s
/-- the first error of commands -/
def fErr (pms z : List Int) (calls : Int) (_ : Int) (x : PC) (_ : Int) : Int × Bool := (x.own pms z calls, decide (x.own pms z calls = 0))
theorem PC.err_eq (pms z : List Int) (calls : Int) (x : PC) : x.err pms z calls = orE (x.own pms z calls) (orE (errCs pms z calls x.thn) (errCs pms z calls x.els)) := by
  obtain ⟨k, v, g, i, e, args, thn, els⟩ := x
  rw [PC.err]; rfl
def Ok0 (_ : PC) (d s : Int) : Prop := s = 0 ∧ 0 ≤ d ∧ d ≤ 6
theorem orE0 (b : Int) : orE 0 b = b := by unfold orE; rw [if_pos rfl]
theorem orE1 {a : Int} (h : a ≠ 0) (b : Int) : orE a b = a := by unfold orE; rw [if_neg h]
theorem err_list {pms z : List Int} {calls : Int} : ∀ {l : List PC}, (∀ x ∈ l, ∀ d, x.fine d = true → 0 ≤ d → d ≤ 5 → x.walk (fErr pms z calls) d 0 = (x.err pms z calls, decide (x.err pms z calls = 0)) ∧ x.okw (fErr pms z calls) Ok0 d 0) → ∀ d, fineP l d = true → 0 ≤ d → walkL (fErr pms z calls) l d 0 = (errCs pms z calls l, decide (errCs pms z calls l = 0)) ∧ okwL (fErr pms z calls) Ok0 l d 0
  | [], _, d, _, _ => by rw [walkL, okwL, errCs]; exact ⟨rfl, trivial⟩
  | x :: xs, h, d, hf, hd0 => by
    obtain ⟨f1, f2, f3⟩ := fineP_head hf
    obtain ⟨a1, a2⟩ := h x (by simp) d f2 hd0 f1
    rw [walkL, okwL, errCs, a1]
    by_cases h0 : x.err pms z calls = 0
    · obtain ⟨b1, b2⟩ := err_list (fun y hy => h y (by simp [hy])) d f3 hd0
      rw [h0, orE0, decide_eq_true rfl, thenW]
      exact ⟨b1, a2, fun s1 he => by injection he with he _; subst he; exact b2⟩
    · rw [orE1 h0, decide_eq_false h0, thenW]
      exact ⟨rfl, a2, fun s1 he => by injection he with _ he; cases he⟩
theorem err_walk (pms z : List Int) (calls : Int) : ∀ x : PC, ∀ d, x.fine d = true → 0 ≤ d → d ≤ 5 → x.walk (fErr pms z calls) d 0 = (x.err pms z calls, decide (x.err pms z calls = 0)) ∧ x.okw (fErr pms z calls) Ok0 d 0 :=
  PC.ind2 fun x ih1 ih2 d hf hd0 hd => by
    obtain ⟨f1, f2⟩ := PC.fine_in hf
    rw [PC.walk_eq, PC.err_eq, PC.okw_eq, fErr]
    obtain ⟨a1, a2⟩ := err_list ih1 (d + 1) f1 (by omega)
    obtain ⟨b1, b2⟩ := err_list ih2 (d + 1) f2 (by omega)
    have hok : Ok0 x d 0 := ⟨rfl, by omega, by omega⟩
    by_cases h0 : x.own pms z calls = 0
    · rw [h0, orE0, decide_eq_true rfl, thenW, a1]
      by_cases h1 : errCs pms z calls x.thn = 0
      · rw [h1, orE0, decide_eq_true rfl, thenW]
        exact ⟨b1, hok, fun s1 he => by
          injection he with he _
          subst he
          exact ⟨a2, fun s2 he => by rw [a1] at he; injection he with he _; subst he; rw [h1]; exact b2⟩⟩
      · rw [orE1 h1, decide_eq_false h1, thenW]
        exact ⟨rfl, hok, fun s1 he => by
          injection he with he _
          subst he
          exact ⟨a2, fun s2 he => by rw [a1] at he; injection he with _ he; exact absurd (of_decide_eq_true he) h1⟩⟩
    · rw [orE1 h0, decide_eq_false h0, thenW]
      exact ⟨rfl, hok, fun s1 he => by injection he with _ he; cases he⟩
theorem errL_walk (pms z : List Int) (calls : Int) (l : List PC) (d : Int) : fineP l d = true → 0 ≤ d → walkL (fErr pms z calls) l d 0 = (errCs pms z calls l, decide (errCs pms z calls l = 0)) ∧ okwL (fErr pms z calls) Ok0 l d 0 := err_list (fun x _ => err_walk pms z calls x) d
end Go.Proofs.Ytgkpplbomciehaa
