/- Programs: what memory reads as. Programs in plain words: how great they are, what is wrong with them. Each lemma states its own conditions. -/
import Derived.Test.YtgkpplbomciehaaCdt02
namespace Go.Proofs.Ytgkpplbomciehaa
open Go.RowKit
/-- expressions of a program -/
inductive PE where
  | mk (kind n : Int) (args : List PE)
namespace PE
def kind : PE → Int | .mk k _ _ => k
def n : PE → Int | .mk _ n _ => n
def args : PE → List PE | .mk _ _ l => l
theorem ind {p : PE → Prop} (h : ∀ k n args, (∀ x ∈ args, p x) → p (.mk k n args)) : ∀ e, p e
  | .mk k n args => h k n args fun x _hx => ind h x
  termination_by e => SizeOf.sizeOf e
  decreasing_by
    have := List.sizeOf_lt_of_mem _hx
    simp only [PE.mk.sizeOf_spec]
    omega
end PE
/-- commands of a program -/
inductive PC where
  | mk (kind var fn : Int) (index expr : PE) (args : List PE) (thn els : List PC)
namespace PC
def kind : PC → Int | .mk k _ _ _ _ _ _ _ => k
def var : PC → Int | .mk _ v _ _ _ _ _ _ => v
def fn : PC → Int | .mk _ _ f _ _ _ _ _ => f
def index : PC → PE | .mk _ _ _ e _ _ _ _ => e
def expr : PC → PE | .mk _ _ _ _ e _ _ _ => e
def args : PC → List PE | .mk _ _ _ _ _ l _ _ => l
def thn : PC → List PC | .mk _ _ _ _ _ _ l _ => l
def els : PC → List PC | .mk _ _ _ _ _ _ _ l => l
theorem ind {p : PC → Prop} (h : ∀ k v f i e args thn els, (∀ x ∈ thn, p x) → (∀ x ∈ els, p x) → p (.mk k v f i e args thn els)) : ∀ x, p x
  | .mk k v f i e args thn els => h k v f i e args thn els (fun x _hx => ind h x) (fun x _hx => ind h x)
  termination_by e => SizeOf.sizeOf e
  decreasing_by
    all_goals
      have := List.sizeOf_lt_of_mem _hx
      simp only [PC.mk.sizeOf_spec]
      omega
end PC
structure PF where
  params : Int
  sizes : List Int
  cmds : List PC
  result : PE
/-- three cells read as an expression -/
inductive PER (w : World) : PE → List Value → Prop
  | mk (k n : Int) (args : List PE) (v : Value) (f : Nat → List Value) (hv : SlF w v args.length 3 f) (hf : ∀ i x, args[i]? = some x → PER w x (f i)) : PER w (.mk k n args) [.int .i64 k, .int .i64 n, v]
theorem PER.keep {w w' : World} (hb : Bel w w') {e : PE} {cs : List Value} (h : PER w e cs) : PER w' e cs := by
  induction h with
  | mk k n args v f hv hf ih => exact .mk k n args v f (hv.keep hb) ih
def peR : Rep PE where
  size := 3
  R w cs e := PER w e cs
  len h := by cases h; rfl
  keep hb h := h.keep hb
theorem PER.opened {w : World} {k n : Int} {args : List PE} {cs : List Value} (h : PER w (.mk k n args) cs) : ∃ v, cs = [.int .i64 k, .int .i64 n, v] ∧ Sl peR w v args := by
  cases h with
  | mk _ _ _ v f hv hf => exact ⟨v, rfl, hv.sl (r := peR) hf⟩
theorem PER.shut {w : World} {k n : Int} {args : List PE} {v : Value} (h : Sl peR w v args) : PER w (.mk k n args) [.int .i64 k, .int .i64 n, v] := by
  obtain ⟨f, h1, h2⟩ := h.frame
  exact .mk k n args v f h1 h2
/-- twelve cells read as a command -/
inductive PCR (w : World) : PC → List Value → Prop
  | mk (k u g : Int) (i e : PE) (args : List PE) (thn els : List PC) (ci ce : List Value) (va vt ve : Value) (ft fe : Nat → List Value) (hi : PER w i ci) (he : PER w e ce) (ha : Sl peR w va args)
      (hvt : SlF w vt thn.length 12 ft) (hft : ∀ i x, thn[i]? = some x → PCR w x (ft i)) (hve : SlF w ve els.length 12 fe) (hfe : ∀ i x, els[i]? = some x → PCR w x (fe i)) :
      PCR w (.mk k u g i e args thn els) ([.int .i64 k, .int .i64 u, .int .i64 g] ++ ci ++ ce ++ [va, vt, ve])
theorem PCR.keep {w w' : World} (hb : Bel w w') {x : PC} {cs : List Value} (h : PCR w x cs) : PCR w' x cs := by
  induction h with
  | mk k u g i e args thn els ci ce va vt ve ft fe hi he ha hvt hft hve hfe ih1 ih2 => exact .mk k u g i e args thn els ci ce va vt ve ft fe (hi.keep hb) (he.keep hb) (ha.keep hb) (hvt.keep hb) ih1 (hve.keep hb) ih2
def pcR : Rep PC where
  size := 12
  R w cs x := PCR w x cs
  len h := by
    cases h with
    | mk _ _ _ _ _ _ _ _ ci ce _ _ _ _ _ hi he =>
      have h1 : ci.length = 3 := peR.len (w := _) (x := _) hi
      have h2 : ce.length = 3 := peR.len (w := _) (x := _) he
      simp [h1, h2]
  keep hb h := h.keep hb
theorem PCR.opened {w : World} {k u g : Int} {i e : PE} {args : List PE} {thn els : List PC} {cs : List Value} (h : PCR w (.mk k u g i e args thn els) cs) : ∃ vi ve va vt vs,
    cs = [.int .i64 k, .int .i64 u, .int .i64 g, .int .i64 i.kind, .int .i64 i.n, vi, .int .i64 e.kind, .int .i64 e.n, ve, va, vt, vs] ∧ Sl peR w vi i.args ∧ Sl peR w ve e.args ∧ Sl peR w va args ∧ Sl pcR w vt thn ∧ Sl pcR w vs els := by
  cases h with
  | mk _ _ _ _ _ _ _ _ ci ce va vt vs ft fe hi he ha hvt hft hve hfe =>
    obtain ⟨ik, iN, iargs⟩ := i
    obtain ⟨ek, eN, eargs⟩ := e
    obtain ⟨vi, rfl, h2⟩ := hi.opened
    obtain ⟨ve, rfl, h4⟩ := he.opened
    exact ⟨vi, ve, va, vt, vs, rfl, h2, h4, ha, hvt.sl (r := pcR) hft, hve.sl (r := pcR) hfe⟩
theorem PCR.shut {w : World} {k u g : Int} {i e : PE} {args : List PE} {thn els : List PC} {vi ve va vt vs : Value} (hi : Sl peR w vi i.args) (he : Sl peR w ve e.args) (ha : Sl peR w va args) (hT : Sl pcR w vt thn) (hE : Sl pcR w vs els) :
    PCR w (.mk k u g i e args thn els) [.int .i64 k, .int .i64 u, .int .i64 g, .int .i64 i.kind, .int .i64 i.n, vi, .int .i64 e.kind, .int .i64 e.n, ve, va, vt, vs] := by
  obtain ⟨ft, h1, h2⟩ := hT.frame
  obtain ⟨fe, h3, h4⟩ := hE.frame
  obtain ⟨ik, iN, iargs⟩ := i
  obtain ⟨ek, eN, eargs⟩ := e
  exact .mk k u g _ _ args thn els [.int .i64 ik, .int .i64 iN, vi] [.int .i64 ek, .int .i64 eN, ve] va vt vs ft fe (.shut hi) (.shut he) ha h1 h2 h3 h4
/-- six cells read as a function -/
def PFR (w : World) (x : PF) (cs : List Value) : Prop := ∃ vz vc vr, cs = [.int .i64 x.params, vz, vc, .int .i64 x.result.kind, .int .i64 x.result.n, vr] ∧ Sl intR w vz x.sizes ∧ Sl pcR w vc x.cmds ∧ Sl peR w vr x.result.args
def pfR : Rep PF where
  size := 6
  R w cs x := PFR w x cs
  len h := by obtain ⟨_, _, _, rfl, _⟩ := h; rfl
  keep hb h := by
    obtain ⟨vz, vc, vr, h1, h2, h3, h4⟩ := h
    exact ⟨vz, vc, vr, h1, h2.keep hb, h3.keep hb, h4.keep hb⟩
/-- an expression as an argument -/
def PEV (w : World) (e : PE) (val : Value) : Prop := ∃ v, val = .agg #[.int .i64 e.kind, .int .i64 e.n, v] ∧ Sl peR w v e.args
theorem PEV.keep {w w' : World} (hb : Bel w w') {e : PE} {val : Value} (h : PEV w e val) : PEV w' e val := by
  obtain ⟨v, h1, h3⟩ := h
  exact ⟨v, h1, h3.keep hb⟩
/-- the cells of an element -/
theorem peR.cells {w : World} {b o : Nat} {xs : List PE} (h : ∀ k x, xs[k]? = some x → peR.At w b (o + k * peR.size) x) {k : Nat} {x : PE} (hk : xs[k]? = some x) :
    ∃ A m c, Sl peR w (.slice A m c) x.args ∧ w.cell? ⟨b, o + k * 3, none⟩ = some (.int .i64 x.kind) ∧ w.cell? ⟨b, o + k * 3 + 1, none⟩ = some (.int .i64 x.n) ∧ w.cell? ⟨b, o + k * 3 + 2, none⟩ = some (.slice A m c) := by
  obtain ⟨cs, hc, hcs⟩ := h k x hk
  obtain ⟨k', n', args⟩ := x
  obtain ⟨v, rfl, hs⟩ := PER.opened hc
  have hs' := hs
  obtain ⟨A, c, rfl, _⟩ := hs
  exact ⟨A, _, c, hs', hcs 0 _ rfl, hcs 1 _ rfl, hcs 2 _ rfl⟩
mutual
/-- how many parts; more than m is enough -/
def PE.size : PE → Int → Int
  | .mk _ _ args, m => sizeP args 1 m
def sizeP : List PE → Int → Int → Int
  | [], a, _ => a
  | x :: xs, a, m => if m < a then a else sizeP xs (a + x.size (m - a)) m
end
theorem sizeP_le {xs : List PE} (h : ∀ x ∈ xs, ∀ m, 0 ≤ m → 1 ≤ x.size m ∧ x.size m ≤ m + 1) : ∀ a m, 1 ≤ a → a ≤ m + 1 → 1 ≤ sizeP xs a m ∧ sizeP xs a m ≤ m + 1 := by
  induction xs with
  | nil => intro a m h1 h2; rw [sizeP]; exact ⟨h1, h2⟩
  | cons x xs ih =>
    intro a m h1 h2
    rw [sizeP]
    split
    · exact ⟨h1, h2⟩
    · obtain ⟨h3, h4⟩ := h x (by simp) (m - a) (by omega)
      exact ih (fun y hy => h y (by simp [hy])) _ _ (by omega) (by omega)
theorem PE.size_le : ∀ q : PE, ∀ m, 0 ≤ m → 1 ≤ q.size m ∧ q.size m ≤ m + 1 :=
  PE.ind fun k n args ih m hm => by rw [PE.size]; exact sizeP_le ih 1 m (by omega) (by omega)
theorem sizeP_drop {args : List PE} {k : Nat} {x : PE} (hx : args[k]? = some x) (a m : Int) : sizeP (args.drop k) a m = if m < a then a else sizeP (args.drop (k + 1)) (a + x.size (m - a)) m := by
  obtain ⟨hl, rfl⟩ := List.getElem?_eq_some_iff.1 hx
  rw [List.drop_eq_getElem_cons hl, sizeP]
theorem sizeP_end {args : List PE} {k : Nat} (h : args.length ≤ k) (a m : Int) : sizeP (args.drop k) a m = a := by
  rw [List.drop_eq_nil_of_le h, sizeP]
/-- how many arguments a kind of expressions has -/
def arityE (k : Int) : Int := if k < 1 ∨ 10 < k then -1 else if k ≤ 2 then 0 else if k = 3 then 1 else 2
/-- the first error stays -/
def orE (a b : Int) : Int := if a = 0 then b else a
/-- a part by itself, with variables that have so many cells -/
def partP (z : List Int) (e : PE) : Int :=
  if arityE e.kind < 0 then 7
  else if (e.args.length : Int) ≠ arityE e.kind then 1
  else if e.kind = 1 then (if -9999999 ≤ e.n ∧ e.n ≤ 9999999 then 0 else 3)
  else if e.kind ≤ 3 then
    (if 0 ≤ e.n ∧ e.n < z.length then (if e.kind = 2 ∧ 0 < z.getD e.n.toNat 0 ∨ e.kind = 3 ∧ z.getD e.n.toNat 0 = 0 then 7 else 0) else 5)
  else if e.n ≠ 0 then 3 else 0
mutual
/-- each part of an expression ahead of those in it -/
def PE.all : PE → List PE
  | .mk k n args => .mk k n args :: allP args
def allP : List PE → List PE
  | [] => []
  | x :: xs => x.all ++ allP xs
end
mutual
/-- the first error of its parts -/
def PE.parts (z : List Int) : PE → Int
  | .mk k n args => orE (partP z (.mk k n args)) (partsP z args)
def partsP (z : List Int) : List PE → Int
  | [] => 0
  | x :: xs => orE (x.parts z) (partsP z xs)
end
def firstP (z : List Int) : List PE → Int
  | [] => 0
  | x :: xs => orE (partP z x) (firstP z xs)
theorem orE_assoc (a b c : Int) : orE (orE a b) c = orE a (orE b c) := by
  unfold orE
  by_cases h : a = 0
  · rw [if_pos h, if_pos h]
  · rw [if_neg h, if_neg h, if_neg h]
theorem orE_zero (a : Int) : orE a 0 = a := by
  unfold orE
  split
  · rename_i h; exact h.symm
  · rfl
theorem firstP_app (z : List Int) : ∀ xs ys : List PE, firstP z (xs ++ ys) = orE (firstP z xs) (firstP z ys)
  | [], ys => rfl
  | x :: xs, ys => by rw [List.cons_append, firstP, firstP, firstP_app z xs ys, orE_assoc]
theorem partsP_first {z : List Int} {xs : List PE} (h : ∀ x ∈ xs, x.parts z = firstP z x.all) : partsP z xs = firstP z (allP xs) := by
  induction xs with
  | nil => rfl
  | cons x xs ih => rw [partsP, allP, firstP_app, h x (by simp), ih fun y hy => h y (by simp [hy])]
/-- the parts one behind the other, or each behind what it is in: the same first error -/
theorem PE.parts_first (z : List Int) : ∀ e : PE, e.parts z = firstP z e.all :=
  PE.ind fun k n args ih => by rw [PE.parts, PE.all, firstP, partsP_first ih]
/-- is an expression right? -/
def PE.err (z : List Int) (e : PE) : Int := if 15 < e.size 15 then 2 else e.parts z
def PE.none_ (e : PE) : Bool := decide (e.kind = 0) && decide (e.n = 0) && decide (e.args.length = 0)
def errPs (z : List Int) : List PE → Int
  | [] => 0
  | x :: xs => orE (x.err z) (errPs z xs)
/-- a command by itself: functions take so many, this one's variables have so many cells, so many functions may be called -/
def PC.own (ps z : List Int) (calls : Int) (x : PC) : Int :=
  if x.kind < 1 ∨ 7 < x.kind then 7
  else if (x.kind ≤ 4 ∧ ¬ (0 ≤ x.var ∧ x.var < z.length)) ∨ (x.kind = 3 ∧ ¬ (0 ≤ x.fn ∧ x.fn < calls)) then 5
  else if x.kind ≤ 4 ∧ (0 < z.getD x.var.toNat 0 ∧ x.kind ≠ 2 ∨ z.getD x.var.toNat 0 = 0 ∧ x.kind = 2) then 7
  else if (4 < x.kind ∧ x.var ≠ 0) ∨ (x.kind ≠ 3 ∧ x.fn ≠ 0) ∨ (x.kind ≠ 2 ∧ x.index.none_ = false) ∨ ((x.kind = 3 ∨ x.kind = 4) ∧ x.expr.none_ = false) ∨ (x.kind ≠ 3 ∧ 0 < x.args.length) ∨ (x.kind < 6 ∧ 0 < x.thn.length) ∨ (x.kind ≠ 6 ∧ 0 < x.els.length) then 1
  else if x.kind = 3 ∧ (x.args.length : Int) ≠ ps.getD x.fn.toNat 0 then 1
  else orE (if x.kind = 2 then x.index.err z else 0) (orE (if x.kind ≠ 3 ∧ x.kind ≠ 4 then x.expr.err z else 0) (errPs z x.args))
mutual
def PC.err (ps z : List Int) (calls : Int) : PC → Int
  | .mk k v f i e args thn els => orE (PC.own ps z calls (.mk k v f i e args thn els)) (orE (errCs ps z calls thn) (errCs ps z calls els))
def errCs (ps z : List Int) (calls : Int) : List PC → Int
  | [] => 0
  | x :: xs => orE (x.err ps z calls) (errCs ps z calls xs)
end
mutual
/-- do commands stand no deeper than they may? -/
def PC.fine : PC → Int → Bool
  | .mk _ _ _ _ _ _ thn els, d => fineP thn (d + 1) && fineP els (d + 1)
def fineP : List PC → Int → Bool
  | [], _ => true
  | x :: xs, d => decide (d ≤ 5) && x.fine d && fineP xs d
end
mutual
/-- how many commands -/
def PC.cnt : PC → Nat
  | .mk _ _ _ _ _ _ thn els => 1 + cntP thn + cntP els
def cntP : List PC → Nat
  | [] => 0
  | x :: xs => x.cnt + cntP xs
end
/-- a function: main is the last one -/
def PF.err (ps : List Int) (calls : Int) (main : Bool) (f : PF) : Int :=
  if f.params < 0 ∨ (f.sizes.length : Int) < f.params then 3
  else if 3 < f.params ∨ 6 < (f.sizes.length : Int) - f.params then 2
  else if f.sizes.all (fun n => decide (0 ≤ n ∧ n ≤ 8)) = false then 3
  else if (f.sizes.take f.params.toNat).all (fun n => decide (n = 0)) = false ∨ (main = true ∧ 0 < f.params) then 1
  else orE (errCs ps f.sizes calls f.cmds) (if main then (if f.result.none_ then 0 else 1) else f.result.err f.sizes)
def errFs (ps : List Int) : Nat → List PF → Int
  | _, [] => 0
  | i, [f] => f.err ps i true
  | i, f :: g :: l => orE (f.err ps (i + 1 : Nat) false) (errFs ps (i + 1) (g :: l))
/-- CheckProgram -/
def errP (l : List PF) : Int :=
  if l.length = 0 then 1
  else if 6 < l.length ∨ l.all (fun f => fineP f.cmds 1) = false ∨ 40 < (l.map fun f => cntP f.cmds).sum then 2
  else errFs (l.map PF.params) 0 l
end Go.Proofs.Ytgkpplbomciehaa
