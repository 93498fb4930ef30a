/- Expressions, commands and functions of programs, copied: laws. Each lemma states its own conditions. -/
import Derived.Test.YtgkpplbomciehaaCdt06
namespace Go.Proofs.Ytgkpplbomciehaa
open Go.RowKit
theorem elPE : Elem Try.prog 45 47 3 40 := Elem.mk_ (z := .agg #[.int .i64 0, .int .i64 0, .slice none 0 0]) (by kernel_rfl) (by kernel_rfl) rfl (by decide)
theorem elPC : Elem Try.prog 76 120 12 176 := Elem.mk_ (z := .agg #[.int .i64 0, .int .i64 0, .int .i64 0, .int .i64 0, .int .i64 0, .slice none 0 0, .int .i64 0, .int .i64 0, .slice none 0 0, .slice none 0 0, .slice none 0 0, .slice none 0 0]) (by kernel_rfl) (by kernel_rfl) rfl (by decide)
theorem elPF : Elem Try.prog 38 78 6 96 := Elem.mk_ (z := .agg #[.int .i64 0, .slice none 0 0, .slice none 0 0, .int .i64 0, .int .i64 0, .slice none 0 0]) (by kernel_rfl) (by kernel_rfl) rfl (by decide)
theorem elI : Elem Try.prog 23 3 1 8 := Elem.mk_ (z := .int .i64 0) (by kernel_rfl) (by kernel_rfl) rfl (by decide)
theorem elII : Elem Try.prog 24 23 1 24 := Elem.mk_ (z := .slice none 0 0) (by kernel_rfl) (by kernel_rfl) rfl (by decide)
theorem undPC : ∃ d, Try.prog.underlying 120 = some d ∧ d.isRow = true := und_of (by kernel_rfl)
theorem undPF : ∃ d, Try.prog.underlying 78 = some d ∧ d.isRow = true := und_of (by kernel_rfl)
theorem peR_one {W : World} {cs : List Value} {x : PE} (h : peR.R W cs x) : ∀ u ∈ cs, u.oneCell' = true := by
  obtain ⟨k, n, args⟩ := x
  obtain ⟨v, rfl, h1⟩ := PER.opened h
  obtain ⟨_, _, rfl, -⟩ := h1
  simp [Value.oneCell']
theorem pcR_one {W : World} {cs : List Value} {x : PC} (h : pcR.R W cs x) : ∀ u ∈ cs, u.oneCell' = true := by
  obtain ⟨k, u, g, i, e, args, thn, els⟩ := x
  obtain ⟨vi, ve, va, vt, vs, rfl, h1, h2, h3, h4, h5⟩ := PCR.opened h
  obtain ⟨_, _, rfl, -⟩ := h1
  obtain ⟨_, _, rfl, -⟩ := h2
  obtain ⟨_, _, rfl, -⟩ := h3
  obtain ⟨_, _, rfl, -⟩ := h4
  obtain ⟨_, _, rfl, -⟩ := h5
  simp [Value.oneCell']
theorem pfR_one {W : World} {cs : List Value} {x : PF} (h : pfR.R W cs x) : ∀ u ∈ cs, u.oneCell' = true := by
  obtain ⟨vz, vc, vr, rfl, h1, h2, h3⟩ := h
  obtain ⟨_, _, rfl, -⟩ := h1
  obtain ⟨_, _, rfl, -⟩ := h2
  obtain ⟨_, _, rfl, -⟩ := h3
  simp [Value.oneCell']
section
variable {ops : Array Oper} {rest : List Oper} {o1 o2 o3 : Oper} {a : Act} {w : World} {Q : Exit → Act → World → Prop}
/-- a command copied -/
theorem copyPC (x y z : Operand) (hg1 : o1.guard = none) (hg2 : o2.guard = none) (hg3 : o3.guard = none)
    (ho1 : o1.op = .load 120 x) (ho2 : o2.op = .alloc 120) (ho3 : o3.op = .store 120 y z) (b o : Nat) (hx : a.eval x = .pointer (some ⟨b, o, none⟩)) (cs : List Value) (hc : CellsAt w b o cs) {W : World} {c : PC} (hr : PCR W c cs)
    (hy : ((a.put o1.dst (.agg cs.toArray)).put o2.dst (.pointer (some ⟨w.heap.size, 0, none⟩))).eval y = .pointer (some ⟨w.heap.size, 0, none⟩))
    (hz : ((a.put o1.dst (.agg cs.toArray)).put o2.dst (.pointer (some ⟨w.heap.size, 0, none⟩))).eval z = .agg cs.toArray)
    (h : wpList Try.prog ops Q rest (((a.put o1.dst (.agg cs.toArray)).put o2.dst (.pointer (some ⟨w.heap.size, 0, none⟩))).put o3.dst undef) (w.alloc (.cells cs.toArray 120))) : wpList Try.prog ops Q (o1 :: o2 :: o3 :: rest) a w := by
  obtain ⟨d, hu, hd⟩ := undPC
  exact wpList_copy _ x y z hg1 hg2 hg3 ho1 ho2 ho3 b o hx cs hc elPC d hu hd (pcR.len hr) (pcR_one hr) hy hz h
/-- a function copied -/
theorem copyPF (x y z : Operand) (hg1 : o1.guard = none) (hg2 : o2.guard = none) (hg3 : o3.guard = none)
    (ho1 : o1.op = .load 78 x) (ho2 : o2.op = .alloc 78) (ho3 : o3.op = .store 78 y z) (b o : Nat) (hx : a.eval x = .pointer (some ⟨b, o, none⟩)) (cs : List Value) (hc : CellsAt w b o cs) {W : World} {c : PF} (hr : PFR W c cs)
    (hy : ((a.put o1.dst (.agg cs.toArray)).put o2.dst (.pointer (some ⟨w.heap.size, 0, none⟩))).eval y = .pointer (some ⟨w.heap.size, 0, none⟩))
    (hz : ((a.put o1.dst (.agg cs.toArray)).put o2.dst (.pointer (some ⟨w.heap.size, 0, none⟩))).eval z = .agg cs.toArray)
    (h : wpList Try.prog ops Q rest (((a.put o1.dst (.agg cs.toArray)).put o2.dst (.pointer (some ⟨w.heap.size, 0, none⟩))).put o3.dst undef) (w.alloc (.cells cs.toArray 78))) : wpList Try.prog ops Q (o1 :: o2 :: o3 :: rest) a w := by
  obtain ⟨d, hu, hd⟩ := undPF
  exact wpList_copy _ x y z hg1 hg2 hg3 ho1 ho2 ho3 b o hx cs hc elPF d hu hd (pfR.len hr) (pfR_one hr) hy hz h
end
/-- where an element lies -/
theorem Sl.elem {α : Type} {r : Rep α} {w : World} {A : Option Addr} {n c : Nat} {xs : List α} (h : Sl r w (.slice A n c) xs) {k : Nat} {x : α} (hk : xs[k]? = some x) : ∃ b o cs, A = some ⟨b, o, none⟩ ∧ r.R w cs x ∧ CellsAt w b (o + k * r.size) cs := by
  obtain ⟨b, o, rfl, h5⟩ := h.lies (by have := (List.getElem?_eq_some_iff.1 hk).1; omega)
  obtain ⟨cs, h6, h7⟩ := h5 k x hk
  exact ⟨b, o, cs, rfl, h6, h7⟩
theorem pcCells {w : World} {x : PC} {cs : List Value} (h : PCR w x cs) : ∃ vi ve va vt vs, cs = [.int .i64 x.kind, .int .i64 x.var, .int .i64 x.fn, .int .i64 x.index.kind, .int .i64 x.index.n, vi, .int .i64 x.expr.kind, .int .i64 x.expr.n, ve, va, vt, vs] ∧
    Sl peR w vi x.index.args ∧ Sl peR w ve x.expr.args ∧ Sl peR w va x.args ∧ Sl pcR w vt x.thn ∧ Sl pcR w vs x.els := by
  obtain ⟨k, u, g, i, e, args, thn, els⟩ := x
  exact PCR.opened h
end Go.Proofs.Ytgkpplbomciehaa
