/- Steps of walks by slots: indexes, copies, appends. Nothing here speaks of one function. Each lemma states its own conditions. -/
import Derived.Test.YtgkpplbomciehaaCdt23
import Derived.Test.YtgkpplbomciehaaCdt07
namespace Go.Proofs.Ytgkpplbomciehaa
open Go.RowKit
section
variable {P : Program} {ρ : Operand → Value} {o : Oper} {w : World}
/-- the place of an element -/
theorem run_ix {t e : TypeId} {size bytes : Nat} (E : Elem P t e size bytes) {x i : Operand} (b f n c k : Nat) (ho : o.op = .indexAddr t x i) (hx : ρ x = .slice (some ⟨b, f, none⟩) n c) (hi : ρ i = .int .i64 (k : Int)) (hk : k < n) :
    (execOp ρ o).run P w = .ok (.value (.pointer (some ⟨b, f + k * size, none⟩))) w := by
  obtain ⟨inf, z, h1, h2, h3, h4, h5⟩ := E.inf
  have hsz : P.cellsOf e = size := by simp [Program.cellsOf, h1, h3]
  have hb : (0 : Int) ≤ (k : Int) ∧ (k : Int) < (n : Int) := by omega
  have hadd : (⟨b, f, none⟩ : Addr).add (k * size) = ⟨b, f + k * size, none⟩ := by unfold Addr.add; split <;> simp_all
  have hu : (underlying t).run P w = .ok (.slice e) w := run_underlying E.und w
  have hs : (sizeOf e).run P w = .ok size w := by rw [run_sizeOf w h1, hsz]
  simp [execOp, ho, hx, hi, Instr.indexAt, asIntOf, go_sem, hu, hs, hk, Sem.run_bind]
theorem run_ix1 {t e : TypeId} {bytes : Nat} (E : Elem P t e 1 bytes) {x i : Operand} (b f n c k : Nat) (ho : o.op = .indexAddr t x i) (hx : ρ x = .slice (some ⟨b, f, none⟩) n c) (hi : ρ i = .int .i64 (k : Int)) (hk : k < n) :
    (execOp ρ o).run P w = .ok (.value (.pointer (some ⟨b, f + k, none⟩))) w := by
  have := run_ix E (w := w) b f n c k ho hx hi hk
  rwa [Nat.mul_one] at this
theorem run_ix0 {t e : TypeId} {size bytes : Nat} (E : Elem P t e size bytes) {x i : Operand} (b n c k : Nat) (ho : o.op = .indexAddr t x i) (hx : ρ x = .slice (some ⟨b, 0, none⟩) n c) (hi : ρ i = .int .i64 (k : Int)) (hk : k < n) :
    (execOp ρ o).run P w = .ok (.value (.pointer (some ⟨b, k * size, none⟩))) w := by
  have := run_ix E (w := w) b 0 n c k ho hx hi hk
  rwa [Nat.zero_add] at this
theorem run_ixi10 {t e : TypeId} {bytes : Nat} (E : Elem P t e 1 bytes) {x i : Operand} (b n c : Nat) (k : Int) (ho : o.op = .indexAddr t x i) (hx : ρ x = .slice (some ⟨b, 0, none⟩) n c) (hi : ρ i = .int .i64 k) (h0 : 0 ≤ k) (hk : k < n) :
    (execOp ρ o).run P w = .ok (.value (.pointer (some ⟨b, k.toNat, none⟩))) w := by
  have := run_ix0 E (w := w) b n c k.toNat ho hx (by rw [hi, show ((k.toNat : Nat) : Int) = k by omega]) (by omega)
  rwa [Nat.mul_one] at this
theorem run_ixi {t e : TypeId} {size bytes : Nat} (E : Elem P t e size bytes) {x i : Operand} (b f n c : Nat) (k : Int) (ho : o.op = .indexAddr t x i) (hx : ρ x = .slice (some ⟨b, f, none⟩) n c) (hi : ρ i = .int .i64 k) (h0 : 0 ≤ k) (hk : k < n) :
    (execOp ρ o).run P w = .ok (.value (.pointer (some ⟨b, f + k.toNat * size, none⟩))) w :=
  run_ix E b f n c k.toNat ho hx (by rw [hi, show ((k.toNat : Nat) : Int) = k by omega]) (by omega)
theorem run_ixi1 {t e : TypeId} {bytes : Nat} (E : Elem P t e 1 bytes) {x i : Operand} (b f n c : Nat) (k : Int) (ho : o.op = .indexAddr t x i) (hx : ρ x = .slice (some ⟨b, f, none⟩) n c) (hi : ρ i = .int .i64 k) (h0 : 0 ≤ k) (hk : k < n) :
    (execOp ρ o).run P w = .ok (.value (.pointer (some ⟨b, f + k.toNat, none⟩))) w := by
  have := run_ixi E (w := w) b f n c k ho hx hi h0 hk
  rwa [Nat.mul_one] at this
end
section
variable {P : Program} {ops : Array Oper} {rest : List Oper} {o1 o2 o3 : Oper} {N : Nat} {s : List (Nat × Value)} {w : World} {Q : Exit → Act → World → Prop}
/-- 'x := l[i]': a struct is copied into a block of its own -/
theorem wa_copy (ty : TypeId) (x : Operand) (d1 d2 : Nat) (hg : o1.guard = none ∧ o2.guard = none ∧ o3.guard = none) (hop : o1.op = .load ty x ∧ o2.op = .alloc ty ∧ o3.op = .store ty (.tmp d2) (.tmp d1)) (hd : o1.dst = some d1 ∧ o2.dst = some d2 ∧ o3.dst = none) (hN : (Nat.blt d1 N && (Nat.blt d2 N && !Nat.beq d2 d1)) = true)
    (b f : Nat) (hk : knows s x = true) (hx : evl s x = .pointer (some ⟨b, f, none⟩)) (cs : List Value) (hc : CellsAt w b f cs) {t : TypeId} {size bytes : Nat} (E : Elem P t ty size bytes) (hu : (P.underlying ty).map (·.isRow) = some true) (hl : cs.length = size) (hone : ∀ u ∈ cs, u.oneCell' = true)
    (h : WA P ops Q rest N ((d2, .pointer (some ⟨w.heap.size, 0, none⟩)) :: (d1, .agg cs.toArray) :: s) (w.alloc (.cells cs.toArray ty))) : WA P ops Q (o1 :: o2 :: o3 :: rest) N s w := by
  obtain ⟨d, hd1, hd2⟩ := und_of hu
  rw [Bool.and_eq_true, Bool.and_eq_true] at hN
  obtain ⟨n1, n2, n3⟩ := hN
  refine ⟨fun a ha => ?_⟩
  have A1 : AtF N ((d1, .agg cs.toArray) :: s) (a.put o1.dst (.agg cs.toArray)) := by
    rw [hd.1]
    exact ha.put (o := { o1 with dst := some d1 }) (d := some d1) (by unfold okDst; simp [n1]) _
  have A2 : AtF N ((d2, .pointer (some ⟨w.heap.size, 0, none⟩)) :: (d1, .agg cs.toArray) :: s) ((a.put o1.dst (.agg cs.toArray)).put o2.dst (.pointer (some ⟨w.heap.size, 0, none⟩))) := by
    rw [hd.2.1]
    exact A1.put (o := { o1 with dst := some d2 }) (d := some d2) (by unfold okDst; simp [n2]) _
  have l2 : lk d2 ((d2, .pointer (some ⟨w.heap.size, 0, none⟩)) :: (d1, .agg cs.toArray) :: s) = some (.pointer (some ⟨w.heap.size, 0, none⟩)) := by
    rw [lk, show Nat.beq d2 d2 = true from Nat.beq_refl d2]; rfl
  have l1 : lk d1 ((d2, .pointer (some ⟨w.heap.size, 0, none⟩)) :: (d1, .agg cs.toArray) :: s) = some (.agg cs.toArray) := by
    rw [lk, show Nat.beq d2 d1 = false by simpa using n3, cond_false, lk, show Nat.beq d1 d1 = true from Nat.beq_refl d1]; rfl
  refine wpList_copy ty x (.tmp d2) (.tmp d1) hg.1 hg.2.1 hg.2.2 hop.1 hop.2.1 hop.2.2 b f (by rw [ha.eval hk, hx]) cs hc E d hd1 hd2 hl hone ?_ ?_ ?_
  · exact A2.getD l2
  · exact A2.getD l1
  · rw [hd.2.2]
    exact h.out _ A2
end
section
variable {ρ : Operand → Value} {o : Oper} {W : World} {x y : Operand} {t2 : TypeId} {k l : Int} {c : Bool}
theorem rb_neqR (ho : o.op = .binOp .neq 28 x y t2) (hx : ρ x = .int .i64 k) (hy : ρ y = .int .i64 l) (hc : (k != l) = c) : (execOp ρ o).run Try.prog W = .ok (.value (.bool c)) W := by
  subst hc
  simp [execOp, ho, hx, hy, go_sem]
theorem rb_geqI (ho : o.op = .binOp .geq 3 x y t2) (hx : ρ x = .int .i64 k) (hy : ρ y = .int .i64 l) (hc : decide (l ≤ k) = c) : (execOp ρ o).run Try.prog W = .ok (.value (.bool c)) W := by
  subst hc
  simp [execOp, ho, hx, hy, go_sem]
end
end Go.Proofs.Ytgkpplbomciehaa
