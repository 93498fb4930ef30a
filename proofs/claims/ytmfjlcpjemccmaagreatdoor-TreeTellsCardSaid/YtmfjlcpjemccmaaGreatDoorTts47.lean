/- Trees that are the same but for where things begin are checked alike. Each lemma states its own conditions. -/
import Derived.Test.YtmfjlcpjemccmaaGreatDoorTts36
namespace Go.Proofs.YtmfjlcpjemccmaaGreatDoor
open Go.RowKit
theorem TE.same_parts {x y : TE} (h : x.same false y = true) : x.kind = y.kind ∧ x.n = y.n ∧ x.name = y.name ∧ sameEs false x.args y.args = true := by
 rw [TE.same_eq] at h
 simp only [Bool.and_eq_true, decide_eq_true_eq, Bool.not_false, Bool.true_or, true_and] at h
 exact ⟨h.1, h.2.1, h.2.2.1, h.2.2.2⟩
theorem sameEs_cons {xs ys : List TE} {x : TE} (h : sameEs false (x :: xs) ys = true) : ∃ y ys', ys = y :: ys' ∧ x.same false y = true ∧ sameEs false xs ys' = true := by
 cases ys with
 | nil =>
  rw [sameEs] at h
  ·cases h
  all_goals (intros; first | contradiction | simp_all)
 | cons y ys =>
  rw [sameEs, Bool.and_eq_true] at h
  exact ⟨y, ys, rfl, h.1, h.2⟩
theorem sameEs_nil {ys : List TE} (h : sameEs false [] ys = true) : ys = [] := by
 cases ys with
 | nil => rfl
 | cons y ys =>
  rw [sameEs] at h
  ·cases h
  all_goals (intros; first | contradiction | simp_all)
theorem sameEs_length {xs : List TE} : ∀ {ys : List TE}, sameEs false xs ys = true → xs.length = ys.length := by
 induction xs with
 | nil => intro ys h; rw [sameEs_nil h]
 | cons x xs ih =>
  intro ys h
  obtain ⟨y, ys', rfl, -, h2⟩ := sameEs_cons h
  rw [List.length_cons, List.length_cons, ih h2]
theorem sizeE_alike {xs : List TE} (hx : ∀ x ∈ xs, ∀ y, x.same false y = true → ∀ m, x.size m = y.size m) : ∀ {ys : List TE}, sameEs false xs ys = true → ∀ a m, sizeE xs a m = sizeE ys a m := by
 induction xs with
 | nil => intro ys h a m; rw [sameEs_nil h]
 | cons x xs ih =>
  intro ys h a m
  obtain ⟨y, ys', rfl, h1, h2⟩ := sameEs_cons h
  rw [sizeE, sizeE, hx x (by simp) y h1, ih (fun z hz => hx z (by simp [hz])) h2]
theorem TE.size_alike : ∀ x y : TE, x.same false y = true → ∀ m, x.size m = y.size m :=
 TE.ind fun k a n s args ih y h m => by
  obtain ⟨k', a', n', s', args'⟩ := y
  rw [TE.size, TE.size]
  exact sizeE_alike ih (TE.same_parts h).2.2.2 1 m
theorem TE.great_alike {x y : TE} (h : x.same false y = true) : x.great = y.great := by
 unfold TE.great
 rw [TE.size_alike x y h]
theorem anyE_alike {p : TE → Bool} {xs : List TE} (hp : ∀ x ∈ xs, ∀ y, x.same false y = true → p x = p y) : ∀ {ys : List TE}, sameEs false xs ys = true → xs.any p = ys.any p ∧ xs.all p = ys.all p := by
 induction xs with
 | nil => intro ys h; rw [sameEs_nil h]; exact ⟨rfl, rfl⟩
 | cons x xs ih =>
  intro ys h
  obtain ⟨y, ys', rfl, h1, h2⟩ := sameEs_cons h
  obtain ⟨h3, h4⟩ := ih (fun z hz => hp z (by simp [hz])) h2
  rw [List.any_cons, List.any_cons, List.all_cons, List.all_cons, hp x (by simp) y h1, h3, h4]
  exact ⟨rfl, rfl⟩
theorem TE.ok_alike : ∀ x y : TE, x.same false y = true → x.ok = y.ok :=
 TE.ind fun k a n s args ih y h => by
  obtain ⟨h1, h2, h3, h4⟩ := TE.same_parts h
  rw [TE.ok_eq, TE.ok_eq, h1, h2, h3, sameEs_length h4, show (TE.mk k a n s args).args.all TE.ok = y.args.all TE.ok from (anyE_alike ih h4).2]
theorem TE.none_alike {x y : TE} (h : x.same false y = true) : x.none_ = y.none_ := by
 obtain ⟨h1, h2, h3, h4⟩ := TE.same_parts h
 unfold TE.none_
 rw [h1, h2, h3, sameEs_length h4]
theorem TC.same_parts {x y : TC} (h : x.same false y = true) : x.kind = y.kind ∧ x.name = y.name ∧ x.other = y.other ∧ x.index.same false y.index = true ∧ x.expr.same false y.expr = true ∧ sameEs false x.args y.args = true ∧ sameCs false x.thn y.thn = true ∧ sameCs false x.els y.els = true := by
 rw [TC.same_eq] at h
 simp only [Bool.and_eq_true, decide_eq_true_eq, Bool.not_false, Bool.true_or, true_and] at h
 exact ⟨h.1, h.2.1, h.2.2.1, h.2.2.2.1, h.2.2.2.2.1, h.2.2.2.2.2.1, h.2.2.2.2.2.2.1, h.2.2.2.2.2.2.2⟩
theorem sameCs_cons {xs ys : List TC} {x : TC} (h : sameCs false (x :: xs) ys = true) : ∃ y ys', ys = y :: ys' ∧ x.same false y = true ∧ sameCs false xs ys' = true := by
 cases ys with
 | nil => rw [sameCs_len (by simp)] at h; cases h
 | cons y ys =>
  rw [sameCs, Bool.and_eq_true] at h
  exact ⟨y, ys, rfl, h.1, h.2⟩
theorem sameCs_nil {ys : List TC} (h : sameCs false [] ys = true) : ys = [] := by
 cases ys with
 | nil => rfl
 | cons y ys => rw [sameCs_len (by simp)] at h; cases h
theorem sameCs_length {xs : List TC} : ∀ {ys : List TC}, sameCs false xs ys = true → xs.length = ys.length := by
 induction xs with
 | nil => intro ys h; rw [sameCs_nil h]
 | cons x xs ih =>
  intro ys h
  obtain ⟨y, ys', rfl, -, h2⟩ := sameCs_cons h
  rw [List.length_cons, List.length_cons, ih h2]
/-- what is said of a list's commands one by one is said alike -/
theorem listC_alike {α : Type} {f : List TC → α} {c : TC → α → α} {z : α} (_h0 : f [] = z) (hc : ∀ x xs, f (x :: xs) = c x (f xs)) {xs : List TC} (hx : ∀ x ∈ xs, ∀ y, x.same false y = true → c x = c y) : ∀ {ys : List TC}, sameCs false xs ys = true → f xs = f ys := by
 induction xs with
 | nil => intro ys h; rw [sameCs_nil h]
 | cons x xs ih =>
  intro ys h
  obtain ⟨y, ys', rfl, h1, h2⟩ := sameCs_cons h
  rw [hc, hc, hx x (by simp) y h1, ih (fun z hz => hx z (by simp [hz])) h2]
theorem TC.alike (x : TC) : ∀ y : TC, x.same false y = true → (∀ d, x.fine d = y.fine d) ∧ x.cnt = y.cnt ∧ x.ok = y.ok := by
 induction x using TC.ind with
 | h k a s t i e args thn els ih1 ih2 =>
  intro y h
  obtain ⟨p1, p2, p3, p4, p5, p6, p7, p8⟩ := TC.same_parts h
  have q1 : sameCs false thn y.thn = true := p7
  have q2 : sameCs false els y.els = true := p8
  have f1 : ∀ d, fineL thn d = fineL y.thn d := fun d => listC_alike (f := fun l => fineL l d) (c := fun x b => decide (d ≤ 5) && x.fine d && b) (z := true) (by rw [fineL]) (fun x xs => by rw [fineL]) (fun x hx y hy => by rw [(ih1 x hx y hy).1]) q1
  have f2 : ∀ d, fineL els d = fineL y.els d := fun d => listC_alike (f := fun l => fineL l d) (c := fun x b => decide (d ≤ 5) && x.fine d && b) (z := true) (by rw [fineL]) (fun x xs => by rw [fineL]) (fun x hx y hy => by rw [(ih2 x hx y hy).1]) q2
  have c1 : cntL thn = cntL y.thn := listC_alike (c := fun x b => x.cnt + b) (z := 0) (by rw [cntL]) (fun x xs => by rw [cntL]) (fun x hx y hy => by rw [(ih1 x hx y hy).2.1]) q1
  have c2 : cntL els = cntL y.els := listC_alike (c := fun x b => x.cnt + b) (z := 0) (by rw [cntL]) (fun x xs => by rw [cntL]) (fun x hx y hy => by rw [(ih2 x hx y hy).2.1]) q2
  have o1 : thn.all TC.ok = y.thn.all TC.ok := listC_alike (f := fun l => l.all TC.ok) (c := fun x b => x.ok && b) (z := true) rfl (fun x xs => List.all_cons) (fun x hx y hy => by rw [(ih1 x hx y hy).2.2]) q1
  have o2 : els.all TC.ok = y.els.all TC.ok := listC_alike (f := fun l => l.all TC.ok) (c := fun x b => x.ok && b) (z := true) rfl (fun x xs => List.all_cons) (fun x hx y hy => by rw [(ih2 x hx y hy).2.2]) q2
  have gE := anyE_alike (p := TE.great) (fun x _ y hy => TE.great_alike hy) p6
  have oE := anyE_alike (p := TE.ok) (fun x _ y hy => TE.ok_alike x y hy) p6
  refine ⟨fun d => ?_, ?_, ?_⟩
  ·rw [TC.fine_eq, TC.fine_eq, TE.great_alike p4, TE.great_alike p5, sameEs_length p6, gE.1, show fineL (TC.mk k a s t i e args thn els).thn (d + 1) = fineL y.thn (d + 1) from f1 _, show fineL (TC.mk k a s t i e args thn els).els (d + 1) = fineL y.els (d + 1) from f2 _]
  ·rw [TC.cnt_eq, TC.cnt_eq, show cntL (TC.mk k a s t i e args thn els).thn = cntL y.thn from c1, show cntL (TC.mk k a s t i e args thn els).els = cntL y.els from c2]
  ·rw [TC.ok_eq, TC.ok_eq, p1, p2, p3, TE.ok_alike _ _ p4, TE.none_alike p4, TE.ok_alike _ _ p5, TE.none_alike p5, oE.2, sameEs_length p6, show (TC.mk k a s t i e args thn els).thn.all TC.ok = y.thn.all TC.ok from o1, show (TC.mk k a s t i e args thn els).els.all TC.ok = y.els.all TC.ok from o2, sameCs_length p7, sameCs_length p8]
theorem cmds_alike {xs ys : List TC} (h : sameCs false xs ys = true) : (∀ d, fineL xs d = fineL ys d) ∧ cntL xs = cntL ys ∧ xs.all TC.ok = ys.all TC.ok :=
 ⟨fun d => listC_alike (f := fun l => fineL l d) (c := fun x b => decide (d ≤ 5) && x.fine d && b) (z := true) (by rw [fineL]) (fun x xs => by rw [fineL]) (fun x _ y hy => by rw [(TC.alike x y hy).1]) h,
  listC_alike (c := fun x b => x.cnt + b) (z := 0) (by rw [cntL]) (fun x xs => by rw [cntL]) (fun x _ y hy => by rw [(TC.alike x y hy).2.1]) h,
  listC_alike (f := fun l => l.all TC.ok) (c := fun x b => x.ok && b) (z := true) rfl (fun x xs => List.all_cons) (fun x _ y hy => by rw [(TC.alike x y hy).2.2]) h⟩
theorem TF.same_parts {x y : TF} (h : x.same false y = true) : x.name = y.name ∧ x.params = y.params ∧ x.vars = y.vars ∧ sameCs false x.cmds y.cmds = true ∧ x.result.same false y.result = true := by
 unfold TF.same at h
 simp only [Bool.and_eq_true, decide_eq_true_eq, Bool.not_false, Bool.true_or, true_and] at h
 exact ⟨h.1, h.2.1, h.2.2.1, h.2.2.2.1, h.2.2.2.2⟩
theorem TF.alike {x y : TF} (h : x.same false y = true) : x.big = y.big ∧ (∀ m, x.ok m = y.ok m) ∧ fineL x.cmds 1 = fineL y.cmds 1 ∧ cntL x.cmds = cntL y.cmds := by
 obtain ⟨h1, h2, h3, h4, h5⟩ := TF.same_parts h
 obtain ⟨c1, c2, c3⟩ := cmds_alike h4
 refine ⟨?_, fun m => ?_, c1 1, c2⟩
 ·unfold TF.big
  rw [h2, h3, TE.great_alike h5]
 ·unfold TF.ok
  rw [h1, h2, h3, c3, TE.ok_alike _ _ h5, TE.none_alike h5]
theorem sameFs_cons {xs ys : List TF} {x : TF} (h : sameFs false (x :: xs) ys = true) : ∃ y ys', ys = y :: ys' ∧ x.same false y = true ∧ sameFs false xs ys' = true := by
 cases ys with
 | nil => cases h
 | cons y ys =>
  rw [sameFs, Bool.and_eq_true] at h
  exact ⟨y, ys, rfl, h.1, h.2⟩
theorem sameFs_nil {ys : List TF} (h : sameFs false [] ys = true) : ys = [] := by
 cases ys with
 | nil => rfl
 | cons y ys => cases h
theorem sameFs_alike {xs : List TF} : ∀ {ys : List TF}, sameFs false xs ys = true → xs.length = ys.length ∧ xs.any TF.big = ys.any TF.big ∧ xs.all (fun f => fineL f.cmds 1) = ys.all (fun f => fineL f.cmds 1) ∧ (xs.map fun f => cntL f.cmds) = (ys.map fun f => cntL f.cmds) ∧ okFs xs = okFs ys := by
 induction xs with
 | nil => intro ys h; rw [sameFs_nil h]; exact ⟨rfl, rfl, rfl, rfl, rfl⟩
 | cons x xs ih =>
  intro ys h
  obtain ⟨y, ys', rfl, h1, h2⟩ := sameFs_cons h
  obtain ⟨a1, a2, a3, a4, a5⟩ := ih h2
  obtain ⟨b1, b2, b3, b4⟩ := TF.alike h1
  refine ⟨by rw [List.length_cons, List.length_cons, a1], by rw [List.any_cons, List.any_cons, b1, a2], by rw [List.all_cons, List.all_cons, b3, a3], by rw [List.map_cons, List.map_cons, b4, a4], ?_⟩
  cases xs with
  | nil => rw [sameFs_nil h2, okFs, okFs, b2]
  | cons x2 xs =>
   obtain ⟨y2, ys2, rfl, -, -⟩ := sameFs_cons h2
   rw [okFs, okFs, b2, a5]
theorem errT_alike {xs ys : List TF} (h : sameFs false xs ys = true) : errT xs = errT ys := by
 obtain ⟨a1, a2, a3, a4, a5⟩ := sameFs_alike h
 unfold errT many manyL
 rw [a1, a2, a3, a4, a5]
end Go.Proofs.YtmfjlcpjemccmaaGreatDoor
