/- The document's reader of commands: it goes on, and what fails stays so. The document's reader of variables: walked. The document's reader of commands: walked. Each lemma states its own conditions. -/
import Derived.Test.YtmfjlcpjemccmaaGreatDoorTts09
import Derived.Test.YtmfjlcpjemccmaaGreatDoorTts08
import Derived.Great.BuildSlice
namespace Go.Proofs.YtmfjlcpjemccmaaGreatDoor
open Go.RowKit
/-- a reader has gone on -/
def Ge (l : List Tok) (q r : RS) : Prop := q.1 ≤ r.1 ∧ (q.1 ≤ l.length → r.1 ≤ l.length) ∧ (q.2 = true → r.2 = true)
section
variable {l : List Tok} {E : Nat} {q r s : RS}
theorem Ge.refl (l : List Tok) (q : RS) : Ge l q q := ⟨Nat.le_refl _, (fun h => h), fun h => h⟩
theorem Ge.trans (h : Ge l q r) (k : Ge l r s) : Ge l q s := ⟨Nat.le_trans h.1 k.1, fun x => k.2.1 (h.2.1 x), fun x => k.2.2 (h.2.2 x)⟩
theorem needD_G {t : ByteArray} (ht : t ≠ emp) (q : RS) : Ge l q (needD l t q) := ⟨needD_ge, needD_le ht, fun h => by unfold needD; rw [if_pos h]; exact h⟩
theorem nameD_G (q : RS) : Ge l q (nameD l q).2 := ⟨nameD_ge, nameD_le, fun h => by
 obtain ⟨p, f⟩ := q
 obtain rfl : f = true := h
 unfold nameD
 split <;> rfl⟩
theorem numD_G (hok : ∀ t ∈ l, TokOk t) (q : RS) : Ge l q (numD l q).2 := ⟨numD_ge, fun h => (numD_le hok h).1, fun h => by
 obtain ⟨p, f⟩ := q
 obtain rfl : f = true := h
 unfold numD
 split <;> rfl⟩
theorem failD_G {c : Bool} (q : RS) : Ge l q (failD c q) := ⟨Nat.le_of_eq failD_ge.symm, failD_le, fun h => by
 unfold failD
 split
 ·rfl
 ·exact h⟩
theorem opS_G (q : RS) : Ge l q (opS l q) := ⟨opS_ge, opS_le, fun h => by
 unfold opS
 cases ho : opD l q with
 | none => rfl
 | some i => exact (needD_G (op_emp ⟨i, (opD_some ho).1⟩) q).2.2 h⟩
theorem exprD_G (hok : ∀ t ∈ l, TokOk t) : ∀ (d : Nat) (q : RS), Ge l q (exprD l E d q).2
 | d, (p, f) => by
  by_cases h1 : tx l p f = lparB
  ·cases d with
   | zero =>
    rw [exprD_deep h1]
    exact ⟨Nat.le_refl _, (fun h => h), fun _ => rfl⟩
   | succ d =>
    rw [exprD_pair h1]
    exact (needD_G (by decide) _).trans ((exprD_G hok d _).trans ((opS_G _).trans ((exprD_G hok d _).trans (needD_G (by decide) _))))
  ·by_cases h2 : tx l p f = dashB
   ·rw [exprD_dash h1 h2]
    exact (needD_G (by decide) _).trans ((failD_G _).trans (numD_G hok _))
   ·by_cases h3 : digD (tx l p f) = true
    ·rw [exprD_num h1 h2 h3]
     exact numD_G hok _
    ·have h3 : digD (tx l p f) = false := by simpa using h3
     by_cases h4 : tx l (nameD l (p, f)).2.1 (nameD l (p, f)).2.2 = lsqB
     ·cases d with
      | zero =>
       rw [exprD_celldeep h1 h2 h3 h4]
       exact (nameD_G (p, f)).trans ⟨Nat.le_refl _, (fun h => h), fun _ => rfl⟩
      | succ d =>
       rw [exprD_cell h1 h2 h3 h4]
       exact (nameD_G (p, f)).trans ((needD_G (by decide) _).trans ((exprD_G hok d _).trans (needD_G (by decide) _)))
     ·rw [exprD_name h1 h2 h3 h4]
      exact nameD_G (p, f)
theorem argsD_G (hok : ∀ t ∈ l, TokOk t) : ∀ (n k : Nat) (q : RS), Ge l q (argsD l E n k q).2
 | 0, _, q => Ge.refl l q
 | n + 1, k, q => by
  by_cases h : q.2 = true ∨ tx l q.1 q.2 = rparB
  ·rw [argsD_stop h]
   exact Ge.refl l q
  ·have h1 : q.2 = false := by
    cases hq : q.2 with
    | true => exact absurd (Or.inl hq) h
    | false => rfl
   rw [argsD_go h1 fun e => h (Or.inr e)]
   have h2 : Ge l q (if 0 < k then needD l commaB q else q) := by
    split
    ·exact needD_G (by decide) _
    ·exact Ge.refl l q
   exact h2.trans ((exprD_G hok 60 _).trans ((failD_G _).trans (argsD_G hok n (k + 1) _)))
/-- a command takes a token, or fails -/
theorem cmdD_G (hok : ∀ t ∈ l, TokOk t) {blk : RS → List TC × RS} (hb : ∀ q, Ge l q (blk q).2) (p : Nat) : Ge l (p, false) (cmdD l E blk (p, false)).2 ∧ ((cmdD l E blk (p, false)).2.2 = true ∨ p < (cmdD l E blk (p, false)).2.1) := by
 have hgo : ∀ {t : ByteArray} (r : RS), t ≠ emp → tx l p false = t → Ge l (needD l (tx l p false) (p, false)) r → Ge l (p, false) r ∧ (r.2 = true ∨ p < r.1) := fun r ht he h => by
  refine ⟨(needD_G (by rw [he]; exact ht) _).trans h, Or.inr ?_⟩
  have h1 := h.1
  rw [needD_go (q := (p, false)) rfl rfl] at h1
  exact h1
 have hnm : ∀ (r : RS), Ge l (nameD l (p, false)).2 r → Ge l (p, false) r ∧ (r.2 = true ∨ p < r.1) := fun r h => by
  refine ⟨(nameD_G _).trans h, ?_⟩
  by_cases hi : isName (tx l p false) = true
  ·have h1 := h.1
   unfold nameD at h1
   rw [if_pos hi] at h1
   exact Or.inr h1
  ·have h1 := h.2.2
   unfold nameD at h1
   rw [if_neg hi] at h1
   exact Or.inl (h1 rfl)
 by_cases h1 : tx l p false = printB
 ·rw [cmdD_print h1]
  exact hgo _ (by decide) h1 ((exprD_G hok 60 _).trans (needD_G (by decide) _))
 by_cases h2 : tx l p false = ifB
 ·by_cases h3 : tx l (blk (exprD l E 60 (needD l (tx l p false) (p, false))).2).2.1 (blk (exprD l E 60 (needD l (tx l p false) (p, false))).2).2.2 = elseB
  ·rw [cmdD_else h2 h3]
   exact hgo _ (by decide) h2 ((exprD_G hok 60 _).trans ((hb _).trans ((needD_G (by decide) _).trans (hb _))))
  ·rw [cmdD_if h2 h3]
   exact hgo _ (by decide) h2 ((exprD_G hok 60 _).trans (hb _))
 by_cases h3 : tx l p false = whileB
 ·rw [cmdD_while h3]
  exact hgo _ (by decide) h3 ((exprD_G hok 60 _).trans (hb _))
 by_cases h4 : tx l (nameD l (p, false)).2.1 (nameD l (p, false)).2.2 = lsqB
 ·rw [cmdD_put h1 h2 h3 h4]
  exact hnm _ ((needD_G (by decide) _).trans ((exprD_G hok 60 _).trans ((needD_G (by decide) _).trans ((needD_G (by decide) _).trans ((exprD_G hok 60 _).trans (needD_G (by decide) _))))))
 by_cases h5 : tx l (needD l eqB (nameD l (p, false)).2).1 (needD l eqB (nameD l (p, false)).2).2 = readB
 ·rw [cmdD_read h1 h2 h3 h4 h5]
  exact hnm _ ((needD_G (by decide) _).trans ((needD_G (by decide) _).trans (needD_G (by decide) _)))
 by_cases h6 : isName (tx l (needD l eqB (nameD l (p, false)).2).1 (needD l eqB (nameD l (p, false)).2).2) = true ∧ tx1 l (needD l eqB (nameD l (p, false)).2) = lparB
 ·rw [cmdD_call h1 h2 h3 h4 h5 h6]
  exact hnm _ ((needD_G (by decide) _).trans ((nameD_G _).trans ((needD_G (by decide) _).trans ((argsD_G hok _ _ _).trans ((needD_G (by decide) _).trans (needD_G (by decide) _))))))
 ·rw [cmdD_set h1 h2 h3 h4 h5 h6]
  exact hnm _ ((needD_G (by decide) _).trans ((exprD_G hok 60 _).trans (needD_G (by decide) _)))
theorem cmdsD_stop {n : Nat} {t : ByteArray} (h : q.2 = true ∨ tx l q.1 q.2 = t) : cmdsD l E n t q = ([], q) := by
 cases n with
 | zero => rfl
 | succ n => rw [cmdsD, if_pos h]
theorem cmdsD_go {n p : Nat} {t : ByteArray} (h : tx l p false ≠ t) : cmdsD l E (n + 1) t (p, false) = ((cmdD l E (blockD l E n) (p, false)).1 :: (cmdsD l E n t (cmdD l E (blockD l E n) (p, false)).2).1, (cmdsD l E n t (cmdD l E (blockD l E n) (p, false)).2).2) := by
 rw [cmdsD, if_neg (by rintro (h1 | h1); cases h1; exact h h1)]
 rfl
theorem cmdsD_G (hok : ∀ t ∈ l, TokOk t) : ∀ (n : Nat) (t : ByteArray) (q : RS), Ge l q (cmdsD l E n t q).2
 | 0, _, q => Ge.refl l q
 | n + 1, t, (p, f) => by
  by_cases h : f = true ∨ tx l p f = t
  ·rw [cmdsD_stop (q := (p, f)) h]
   exact Ge.refl l _
  ·obtain rfl : f = false := by
    cases f with
    | true => exact absurd (Or.inl rfl) h
    | false => rfl
   rw [cmdsD_go fun e => h (Or.inr e)]
   refine (cmdD_G hok (fun q => ?_) p).1.trans (cmdsD_G hok n t _)
   exact (needD_G (by decide) _).trans ((cmdsD_G hok n rcurB _).trans (needD_G (by decide) _))
theorem blockD_G (hok : ∀ t ∈ l, TokOk t) (n : Nat) (q : RS) : Ge l q (blockD l E n q).2 := (needD_G (by decide) _).trans ((cmdsD_G hok n rcurB _).trans (needD_G (by decide) _))
end
theorem grownOwn {w W W2 : World} {g : Nat} {o : Option Nat} (h : w.grownBy W (some g)) (h2 : W.grownBy W2 o) (ho : ∀ k, o = some k → w.heap.size ≤ k) : w.grownBy W2 (some g) :=
 ⟨h2.os.trans h.os, h2.tape.trans h.tape, h2.output.trans h.output, Nat.le_trans h.size h2.size, fun x hx hne => (h2.block x (Nat.lt_of_lt_of_le hx h.size) (fun e => by
  have := ho x e.symm
  omega)).trans (h.block x hx hne)⟩
theorem elTC : Elem Tryz.prog 46 53 17 248 := Elem.mk_ (z := .agg #[.int .i64 0, .int .i64 0, .string ⟨#[]⟩, .string ⟨#[]⟩, .int .i64 0, .int .i64 0, .int .i64 0, .string ⟨#[]⟩, .slice none 0 0, .int .i64 0, .int .i64 0, .int .i64 0, .string ⟨#[]⟩, .slice none 0 0, .slice none 0 0, .slice none 0 0, .slice none 0 0]) (by kernel_rfl) (by kernel_rfl) rfl (by decide)
/-- '[]T{x}' of a struct whose cells are not looked at -/
theorem wpList_oneRow {P : Program} {ops : Array Oper} {rest : List Oper} {o : Oper} {a : Act} {w : World} {Q : Exit → Act → World → Prop} (hg : o.guard = none) (t e : TypeId) (x : Operand) (ho : o.op = .buildSlice t 1 #[(0, x)])
  (cs : List Value) (hx : a.eval x = .agg cs.toArray) {size bytes : Nat} (E : Elem P t e size bytes) (hl : cs.length = size) (hs : size ≤ 1000)
  (h : wpList P ops Q rest (a.put o.dst (.slice (some ⟨w.heap.size, 0, none⟩) 1 1)) (w.alloc (.cells cs.toArray e))) : wpList P ops Q (o :: rest) a w := by
 obtain ⟨i, z, hi, hz, hz1, hz2, hz3⟩ := E.inf
 refine wpList_buildSlice hg t e 1 _ ho cs.toArray i z E.und hi hz (by rw [hz1]; omega) (by rw [hz1]; have := E.pos; omega) ?_ h
 have hp : ((#[(0, x)] : Array (Nat × Operand)).map fun (i, x) => (i, a.eval x)).toList = ((([a.eval x] : List Value).zipIdx 0).map fun x => (x.2, x.1)) := by simp
 rw [hp, hx, hz1]
 have := Great.fill_whole (s := size) E.pos [.agg cs.toArray] ((Array.range (1 * size)).map (z.cells[· % z.cells.size]!)) (by simp [Value.cells, hl]) (by simp)
 rw [this]
 simp [Value.cells]
theorem tcR_one {W : World} {cs : List Value} {x : TC} (h : tcR.R W cs x) : ∀ u ∈ cs, u.oneCell' = true := by
 obtain ⟨xk, xa, xs1, xs2, xi, xe, xargs, xt, xl⟩ := x
 obtain ⟨vi, ve, va, vt, vs, rfl, -, -, -, -, h1, h2, h3, h4, h5⟩ := TCR.opened h
 obtain ⟨_, _, rfl, -⟩ := h1
 obtain ⟨_, _, rfl, -⟩ := h2
 obtain ⟨_, _, rfl, -⟩ := h3
 obtain ⟨_, _, rfl, -⟩ := h4
 obtain ⟨_, _, rfl, -⟩ := h5
 simp [Value.oneCell']
end Go.Proofs.YtmfjlcpjemccmaaGreatDoor
