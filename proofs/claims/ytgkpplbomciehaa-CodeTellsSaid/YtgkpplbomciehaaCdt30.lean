/- Walks by slots: a struct laid out, a struct stored whole, results that lie in a block. Nothing here speaks of one function. Each lemma states its own conditions. -/
import Derived.Test.YtgkpplbomciehaaCdt27
namespace Go.Proofs.Ytgkpplbomciehaa
open Go.RowKit
section
variable {P : Program} {ops : Array Oper} {Q : Exit → Act → World → Prop} {N : Nat} {s : List (Nat × Value)} {w : World} {rest : List Oper} {o : Oper}
theorem wa_alloc (ty : TypeId) (d : Nat) (hg : o.guard = none) (hop : o.op = .alloc ty) (hd : okDst N o (some d) = true) {size bytes : Nat} (inf : ∃ i z, P.info? ty = some i ∧ i.zero = some z ∧ i.size = size ∧ i.bytes = bytes ∧ z.cells.size = size)
    (h : ∀ z : Array Value, z.size = size → WA P ops Q rest N ((d, .pointer (some ⟨w.heap.size, 0, none⟩)) :: s) (w.alloc (.cells z ty))) : WA P ops Q (o :: rest) N s w := by
  obtain ⟨i, zv, hi, hz0, hz1, hz2, hz3⟩ := inf
  refine ⟨fun a ha => ?_⟩
  have A2 := ha.put hd (.pointer (some ⟨w.heap.size, 0, none⟩))
  refine Great.wpList_runTo hg o.dst rfl _ _ (run_alloc_ ty hop hi hz0) ?_
  rw [okDst_dst hd]
  exact (h zv.cells hz3).out _ A2
theorem wa_row (ty : TypeId) (x y : Operand) (hg : o.guard = none) (hop : o.op = .store ty x y) (hd : okDst N o none = true) (g : Nat) (cs : List Value) (hkx : knows s x = true) (hx : evl s x = .pointer (some ⟨g, 0, none⟩)) (hky : knows s y = true) (hy : evl s y = .agg cs.toArray)
    {old : Array Value} (hb : Blk w g ty old) (hi : (P.info? ty).map (·.size) = some cs.toArray.size) (hold : old.size = cs.toArray.size) (hone : ∀ u ∈ cs, u.oneCell' = true) (h : WA P ops Q rest N s (w.setRow g cs.toArray)) : WA P ops Q (o :: rest) N s w := by
  refine ⟨fun a ha => ?_⟩
  refine wpList_store_row hg ty x y hop g cs.toArray (ha.known hkx hx) (ha.known hky hy) ty old hb hi hold (all_oneCell_toArray hone) ?_
  rw [okDst_dst hd]
  exact h.out _ (ha.put hd undef)
theorem la_retC {fn : Func} {R : Ending → World → Prop} (p ty g : Nat) (cs : Array Value) (d : TypeDesc) (hr : fn.results = #[.cell p ty]) (hp : lk p s = some (.pointer (some ⟨g, 0, none⟩))) (hb : Blk w g ty cs) (hu : P.underlying ty = some d) (hd : (match d with | .struct _ | .array _ _ => true | _ => false) = true)
    (hi : (P.info? ty).map (·.size) = some cs.size) (h : R (.returned (.agg cs)) w) : LA (bodyPost P fn R) .ret N s w :=
  ⟨fun a ha => ⟨ha.2.1, .agg cs, results_cell_row hr a.tmps w g ty cs (0, 0) d (ha.getD hp) hb hu hd hi, h⟩⟩
theorem la_retC1 {fn : Func} {R : Ending → World → Prop} (p ty g t : Nat) (cs : Array Value) (v : Value) (d : TypeDesc) (hr : fn.results = #[.cell p ty, .tmp t]) (hp : lk p s = some (.pointer (some ⟨g, 0, none⟩))) (hv : lk t s = some v) (hb : Blk w g ty cs) (hu : P.underlying ty = some d) (hd : (match d with | .struct _ | .array _ _ => true | _ => false) = true)
    (hi : (P.info? ty).map (·.size) = some cs.size) (h : R (.returned (.tuple #[.agg cs, v])) w) : LA (bodyPost P fn R) .ret N s w :=
  ⟨fun a ha => ⟨ha.2.1, .tuple #[.agg cs, v], by
    have hp' : a.tmps[p]?.getD undef = .pointer (some ⟨g, 0, none⟩) := by rw [ha.2.2 p _ hp]; rfl
    have hv' : a.tmps[t]?.getD undef = v := by rw [ha.2.2 t _ hv]; rfl
    simp [results, hr, hp', hv', asAddr, run_loadVar_row w g ty ty cs (0, 0) d hb hu hd hi], h⟩⟩
end
end Go.Proofs.Ytgkpplbomciehaa
