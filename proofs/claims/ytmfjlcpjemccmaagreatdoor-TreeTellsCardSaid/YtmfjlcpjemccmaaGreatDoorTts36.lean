/- Are two expressions of trees the same, by the document. Are two trees the same: in plain words. Each lemma states its own conditions. -/
import Derived.Test.YtmfjlcpjemccmaaGreatDoorTts35
namespace Go.Proofs.YtmfjlcpjemccmaaGreatDoor
open Go.RowKit
set_option maxRecDepth 20000 in
set_option maxHeartbeats 2000000 in
theorem sameE_step (f : Bool) (x y : TE) (va vb : Value) (w : World) (ha : TEV w x va) (hb : TEV w y vb)
  (IH : ∀ z ∈ x.args, ∀ (y : TE) (va vb : Value) (W : World), TEV W z va → TEV W y vb → Calls Tryz.prog 49 #[va, vb, .bool f] W fun r w' => r = .returned (.bool (z.same f y)) ∧ Bel W w') :
  Calls Tryz.prog 49 #[va, vb, .bool f] w fun r w' => r = .returned (.bool (x.same f y)) ∧ Bel w w' := by
 obtain ⟨v, rfl, -, hsa⟩ := ha
 obtain ⟨v', rfl, -, hsb⟩ := hb
 obtain ⟨A, c, rfl, -⟩ := id hsa
 obtain ⟨B, d, rfl, -⟩ := id hsb
 have HT := Hi_ (TE.same_eq f x y)
 have HAS := Hi_ (fun W (hb : Bel w W) => sameEs_step f x.args y.args _ _ W (hsa.keep hb) (hsb.keep hb) IH)
 have HB := Hi_ (((Bel.rfl_ w).al (.cells #[.int .i64 x.kind, .int .i64 x.at_, .int .i64 x.n, .string x.name, .slice A x.args.length c] 49)).al (.cells #[.int .i64 y.kind, .int .i64 y.at_, .int .i64 y.n, .string y.name, .slice B y.args.length d] 49))
 have HQ := Hi_ ((Blk.new w 49 #[.int .i64 x.kind, .int .i64 x.at_, .int .i64 x.n, .string x.name, .slice A x.args.length c]).keep ((Bel.rfl_ _).al (.cells #[.int .i64 y.kind, .int .i64 y.at_, .int .i64 y.n, .string y.name, .slice B y.args.length d] 49)))
 have HR := Hi_ (Blk.new (w.alloc (.cells #[.int .i64 x.kind, .int .i64 x.at_, .int .i64 x.n, .string x.name, .slice A x.args.length c] 49)) 49 #[.int .i64 y.kind, .int .i64 y.at_, .int .i64 y.n, .string y.name, .slice B y.args.length d])
 rw [World.size_alloc] at HR
 clear hsa hsb IH
 by_cases h1 : x.kind = y.kind
 ·have d1 : (x.kind == y.kind) = true := by simpa using h1
  rw [decide_eq_true h1, Bool.true_and] at HT
  clear h1
  by_cases h2 : x.n = y.n
  ·have d2 : (x.n == y.n) = true := by simpa using h2
   rw [decide_eq_true h2, Bool.true_and] at HT
   clear h2
   by_cases h3 : x.name = y.name
   ·have d3 : (x.name.toList == y.name.toList) = true := str_true h3
    rw [decide_eq_true h3, Bool.true_and] at HT
    clear h3
    cases f with
    | false =>
     rw [show (!false || decide (x.at_ = y.at_)) = true from rfl, Bool.true_and] at HT
     go_enter Tryz.func49, Tryz.ntmps49
     go_upto_region 1 with fail
     generalize (w.alloc (.cells #[.int .i64 x.kind, .int .i64 x.at_, .int .i64 x.n, .string x.name, .slice A x.args.length c] 49)).alloc (.cells #[.int .i64 y.kind, .int .i64 y.at_, .int .i64 y.n, .string y.name, .slice B y.args.length d] 49) = W0 at *
     generalize w.heap.size + 1 = G2 at *
     generalize w.heap.size = G1 at *
     have c0 := HQ.out.cell (i := 0) (v := .int .i64 x.kind) rfl
     have c1 := HQ.out.cell (i := 1) (v := .int .i64 x.at_) rfl
     have c2 := HQ.out.cell (i := 2) (v := .int .i64 x.n) rfl
     have c3 := HQ.out.cell (i := 3) (v := .string x.name) rfl
     have c4 := HQ.out.cell (i := 4) (v := .slice A x.args.length c) rfl
     have e0 := HR.out.cell (i := 0) (v := .int .i64 y.kind) rfl
     have e1 := HR.out.cell (i := 1) (v := .int .i64 y.at_) rfl
     have e2 := HR.out.cell (i := 2) (v := .int .i64 y.n) rfl
     have e3 := HR.out.cell (i := 3) (v := .string y.name) rfl
     have e4 := HR.out.cell (i := 4) (v := .slice B y.args.length d) rfl
     go_wp2_with fail
     refine (HAS.out _ HB.out).mono ?_
     rintro r w2 ⟨rfl, hb⟩
     have HB1 := Hi_ (HB.out.tr hb)
     clear hb
     go_wp2
     go_ret
     exact ⟨by rw [HT.out]; rfl, HB1.out⟩
    | true =>
     rw [show (!true || decide (x.at_ = y.at_)) = decide (x.at_ = y.at_) from rfl] at HT
     by_cases h4 : x.at_ = y.at_
     ·have d4 : (x.at_ == y.at_) = true := by simpa using h4
      rw [decide_eq_true h4, Bool.true_and] at HT
      clear h4
      go_enter Tryz.func49, Tryz.ntmps49
      go_upto_region 1 with fail
      generalize (w.alloc (.cells #[.int .i64 x.kind, .int .i64 x.at_, .int .i64 x.n, .string x.name, .slice A x.args.length c] 49)).alloc (.cells #[.int .i64 y.kind, .int .i64 y.at_, .int .i64 y.n, .string y.name, .slice B y.args.length d] 49) = W0 at *
      generalize w.heap.size + 1 = G2 at *
      generalize w.heap.size = G1 at *
      have c0 := HQ.out.cell (i := 0) (v := .int .i64 x.kind) rfl
      have c1 := HQ.out.cell (i := 1) (v := .int .i64 x.at_) rfl
      have c2 := HQ.out.cell (i := 2) (v := .int .i64 x.n) rfl
      have c3 := HQ.out.cell (i := 3) (v := .string x.name) rfl
      have c4 := HQ.out.cell (i := 4) (v := .slice A x.args.length c) rfl
      have e0 := HR.out.cell (i := 0) (v := .int .i64 y.kind) rfl
      have e1 := HR.out.cell (i := 1) (v := .int .i64 y.at_) rfl
      have e2 := HR.out.cell (i := 2) (v := .int .i64 y.n) rfl
      have e3 := HR.out.cell (i := 3) (v := .string y.name) rfl
      have e4 := HR.out.cell (i := 4) (v := .slice B y.args.length d) rfl
      go_wp2_with fail
      refine (HAS.out _ HB.out).mono ?_
      rintro r w2 ⟨rfl, hb⟩
      have HB1 := Hi_ (HB.out.tr hb)
      clear hb
      go_wp2
      go_ret
      exact ⟨by rw [HT.out]; rfl, HB1.out⟩
     ·have d4 : (x.at_ == y.at_) = false := by simpa using h4
      rw [decide_eq_false h4, Bool.false_and] at HT
      clear h4
      go_enter Tryz.func49, Tryz.ntmps49
      go_upto_region 1 with fail
      generalize (w.alloc (.cells #[.int .i64 x.kind, .int .i64 x.at_, .int .i64 x.n, .string x.name, .slice A x.args.length c] 49)).alloc (.cells #[.int .i64 y.kind, .int .i64 y.at_, .int .i64 y.n, .string y.name, .slice B y.args.length d] 49) = W0 at *
      generalize w.heap.size + 1 = G2 at *
      generalize w.heap.size = G1 at *
      have c0 := HQ.out.cell (i := 0) (v := .int .i64 x.kind) rfl
      have c1 := HQ.out.cell (i := 1) (v := .int .i64 x.at_) rfl
      have c2 := HQ.out.cell (i := 2) (v := .int .i64 x.n) rfl
      have c3 := HQ.out.cell (i := 3) (v := .string x.name) rfl
      have c4 := HQ.out.cell (i := 4) (v := .slice A x.args.length c) rfl
      have e0 := HR.out.cell (i := 0) (v := .int .i64 y.kind) rfl
      have e1 := HR.out.cell (i := 1) (v := .int .i64 y.at_) rfl
      have e2 := HR.out.cell (i := 2) (v := .int .i64 y.n) rfl
      have e3 := HR.out.cell (i := 3) (v := .string y.name) rfl
      have e4 := HR.out.cell (i := 4) (v := .slice B y.args.length d) rfl
      clear HAS
      go_wp2
      go_ret
      exact ⟨by rw [HT.out]; rfl, HB.out⟩
   ·have d3 : (x.name.toList == y.name.toList) = false := str_false h3
    rw [decide_eq_false h3, Bool.false_and] at HT
    clear h3
    go_enter Tryz.func49, Tryz.ntmps49
    go_upto_region 1 with fail
    generalize (w.alloc (.cells #[.int .i64 x.kind, .int .i64 x.at_, .int .i64 x.n, .string x.name, .slice A x.args.length c] 49)).alloc (.cells #[.int .i64 y.kind, .int .i64 y.at_, .int .i64 y.n, .string y.name, .slice B y.args.length d] 49) = W0 at *
    generalize w.heap.size + 1 = G2 at *
    generalize w.heap.size = G1 at *
    have c0 := HQ.out.cell (i := 0) (v := .int .i64 x.kind) rfl
    have c1 := HQ.out.cell (i := 1) (v := .int .i64 x.at_) rfl
    have c2 := HQ.out.cell (i := 2) (v := .int .i64 x.n) rfl
    have c3 := HQ.out.cell (i := 3) (v := .string x.name) rfl
    have c4 := HQ.out.cell (i := 4) (v := .slice A x.args.length c) rfl
    have e0 := HR.out.cell (i := 0) (v := .int .i64 y.kind) rfl
    have e1 := HR.out.cell (i := 1) (v := .int .i64 y.at_) rfl
    have e2 := HR.out.cell (i := 2) (v := .int .i64 y.n) rfl
    have e3 := HR.out.cell (i := 3) (v := .string y.name) rfl
    have e4 := HR.out.cell (i := 4) (v := .slice B y.args.length d) rfl
    clear HAS
    go_wp2
    go_ret
    exact ⟨by rw [HT.out]; rfl, HB.out⟩
  ·have d2 : (x.n == y.n) = false := by simpa using h2
   rw [decide_eq_false h2, Bool.false_and] at HT
   clear h2
   go_enter Tryz.func49, Tryz.ntmps49
   go_upto_region 1 with fail
   generalize (w.alloc (.cells #[.int .i64 x.kind, .int .i64 x.at_, .int .i64 x.n, .string x.name, .slice A x.args.length c] 49)).alloc (.cells #[.int .i64 y.kind, .int .i64 y.at_, .int .i64 y.n, .string y.name, .slice B y.args.length d] 49) = W0 at *
   generalize w.heap.size + 1 = G2 at *
   generalize w.heap.size = G1 at *
   have c0 := HQ.out.cell (i := 0) (v := .int .i64 x.kind) rfl
   have c1 := HQ.out.cell (i := 1) (v := .int .i64 x.at_) rfl
   have c2 := HQ.out.cell (i := 2) (v := .int .i64 x.n) rfl
   have c3 := HQ.out.cell (i := 3) (v := .string x.name) rfl
   have c4 := HQ.out.cell (i := 4) (v := .slice A x.args.length c) rfl
   have e0 := HR.out.cell (i := 0) (v := .int .i64 y.kind) rfl
   have e1 := HR.out.cell (i := 1) (v := .int .i64 y.at_) rfl
   have e2 := HR.out.cell (i := 2) (v := .int .i64 y.n) rfl
   have e3 := HR.out.cell (i := 3) (v := .string y.name) rfl
   have e4 := HR.out.cell (i := 4) (v := .slice B y.args.length d) rfl
   clear HAS
   go_wp2
   go_ret
   exact ⟨by rw [HT.out]; rfl, HB.out⟩
 ·have d1 : (x.kind == y.kind) = false := by simpa using h1
  rw [decide_eq_false h1, Bool.false_and] at HT
  clear h1
  go_enter Tryz.func49, Tryz.ntmps49
  go_upto_region 1 with fail
  generalize (w.alloc (.cells #[.int .i64 x.kind, .int .i64 x.at_, .int .i64 x.n, .string x.name, .slice A x.args.length c] 49)).alloc (.cells #[.int .i64 y.kind, .int .i64 y.at_, .int .i64 y.n, .string y.name, .slice B y.args.length d] 49) = W0 at *
  generalize w.heap.size + 1 = G2 at *
  generalize w.heap.size = G1 at *
  have c0 := HQ.out.cell (i := 0) (v := .int .i64 x.kind) rfl
  have c1 := HQ.out.cell (i := 1) (v := .int .i64 x.at_) rfl
  have c2 := HQ.out.cell (i := 2) (v := .int .i64 x.n) rfl
  have c3 := HQ.out.cell (i := 3) (v := .string x.name) rfl
  have c4 := HQ.out.cell (i := 4) (v := .slice A x.args.length c) rfl
  have e0 := HR.out.cell (i := 0) (v := .int .i64 y.kind) rfl
  have e1 := HR.out.cell (i := 1) (v := .int .i64 y.at_) rfl
  have e2 := HR.out.cell (i := 2) (v := .int .i64 y.n) rfl
  have e3 := HR.out.cell (i := 3) (v := .string y.name) rfl
  have e4 := HR.out.cell (i := 4) (v := .slice B y.args.length d) rfl
  clear HAS
  go_wp2
  go_ret
  exact ⟨by rw [HT.out]; rfl, HB.out⟩
theorem sameE_any (f : Bool) : ∀ (x y : TE) (va vb : Value) (w : World), TEV w x va → TEV w y vb → Calls Tryz.prog 49 #[va, vb, .bool f] w fun r w' => r = .returned (.bool (x.same f y)) ∧ Bel w w' :=
 TE.ind fun k a n s args ih y va vb w ha hb => sameE_step f (.mk k a n s args) y va vb w ha hb fun z hz => ih z hz
theorem sameEs_any (f : Bool) (xs ys : List TE) (va vb : Value) (w : World) (ha : Sl teR w va xs) (hb : Sl teR w vb ys) : Calls Tryz.prog 89 #[va, vb, .bool f] w fun r w' => r = .returned (.bool (sameEs f xs ys)) ∧ Bel w w' :=
 sameEs_step f xs ys va vb w ha hb fun x _ => sameE_any f x
mutual
/-- are two commands the same; where they begin too, if that is asked? -/
def TC.same (f : Bool) : TC → TC → Bool
 | .mk k a s t i e args thn els, .mk k' a' s' t' i' e' args' thn' els' => decide (k = k') && ((!f || decide (a = a')) && (decide (s = s') && (decide (t = t') && (i.same f i' && (e.same f e' && (sameEs f args args' && (sameCs f thn thn' && sameCs f els els')))))))
def sameCs (f : Bool) : List TC → List TC → Bool
 | [], [] => true
 | x :: xs, y :: ys => x.same f y && sameCs f xs ys
 | _, _ => false
end
theorem TC.same_eq (f : Bool) (x y : TC) : x.same f y = (decide (x.kind = y.kind) && ((!f || decide (x.at_ = y.at_)) && (decide (x.name = y.name) && (decide (x.other = y.other) && (x.index.same f y.index && (x.expr.same f y.expr && (sameEs f x.args y.args && (sameCs f x.thn y.thn && sameCs f x.els y.els)))))))) := by
 cases x
 cases y
 rw [TC.same]
 rfl
theorem sameCs_len {f : Bool} : ∀ {xs ys : List TC}, xs.length ≠ ys.length → sameCs f xs ys = false
 | [], [], h => absurd rfl h
 | [], y :: ys, _ => by rw [sameCs]; all_goals (intros; first | contradiction | simp_all)
 | x :: xs, [], _ => by rw [sameCs]; all_goals (intros; first | contradiction | simp_all)
 | x :: xs, y :: ys, h => by
  rw [sameCs, sameCs_len (xs := xs) (ys := ys) (fun e => h (by rw [List.length_cons, List.length_cons, e])), Bool.and_false]
theorem sameCs_drop {f : Bool} {xs ys : List TC} {k : Nat} {x y : TC} (hx : xs[k]? = some x) (hy : ys[k]? = some y) : sameCs f (xs.drop k) (ys.drop k) = (x.same f y && sameCs f (xs.drop (k + 1)) (ys.drop (k + 1))) := by
 obtain ⟨h1, rfl⟩ := List.getElem?_eq_some_iff.1 hx
 obtain ⟨h2, rfl⟩ := List.getElem?_eq_some_iff.1 hy
 rw [List.drop_eq_getElem_cons h1, List.drop_eq_getElem_cons h2, sameCs]
theorem sameCs_end {f : Bool} {xs ys : List TC} {k : Nat} (h1 : xs.length ≤ k) (h2 : ys.length ≤ k) : sameCs f (xs.drop k) (ys.drop k) = true := by
 rw [List.drop_eq_nil_of_le h1, List.drop_eq_nil_of_le h2, sameCs]
theorem sameEs_rfl {xs : List TE} (h : ∀ x ∈ xs, x.same false x = true) : sameEs false xs xs = true := by
 induction xs with
 | nil => rw [sameEs]
 | cons x xs ih => rw [sameEs, h x (by simp), ih fun y hy => h y (by simp [hy])]; rfl
theorem TE.same_rfl : ∀ e : TE, e.same false e = true :=
 TE.ind fun k a n s args ih => by
  rw [TE.same, sameEs_rfl ih]
  simp
/-- two functions -/
def TF.same (f : Bool) (x y : TF) : Bool := (!f || decide (x.at_ = y.at_)) && (decide (x.name = y.name) && (decide (x.params = y.params) && (decide (x.vars = y.vars) && (sameCs f x.cmds y.cmds && x.result.same f y.result))))
def sameFs (f : Bool) : List TF → List TF → Bool
 | [], [] => true
 | x :: xs, y :: ys => x.same f y && sameFs f xs ys
 | _, _ => false
theorem sameFs_len {f : Bool} : ∀ {xs ys : List TF}, xs.length ≠ ys.length → sameFs f xs ys = false
 | [], [], h => absurd rfl h
 | [], y :: ys, _ => rfl
 | x :: xs, [], _ => rfl
 | x :: xs, y :: ys, h => by
  rw [sameFs, sameFs_len (xs := xs) (ys := ys) (fun e => h (by rw [List.length_cons, List.length_cons, e])), Bool.and_false]
theorem sameFs_drop {f : Bool} {xs ys : List TF} {k : Nat} {x y : TF} (hx : xs[k]? = some x) (hy : ys[k]? = some y) : sameFs f (xs.drop k) (ys.drop k) = (x.same f y && sameFs f (xs.drop (k + 1)) (ys.drop (k + 1))) := by
 obtain ⟨h1, rfl⟩ := List.getElem?_eq_some_iff.1 hx
 obtain ⟨h2, rfl⟩ := List.getElem?_eq_some_iff.1 hy
 rw [List.drop_eq_getElem_cons h1, List.drop_eq_getElem_cons h2, sameFs]
theorem sameFs_end {f : Bool} {xs ys : List TF} {k : Nat} (h1 : xs.length ≤ k) (h2 : ys.length ≤ k) : sameFs f (xs.drop k) (ys.drop k) = true := by
 rw [List.drop_eq_nil_of_le h1, List.drop_eq_nil_of_le h2, sameFs]
end Go.Proofs.YtmfjlcpjemccmaaGreatDoor
