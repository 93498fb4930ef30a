/- Steps of regions, and copies of structs, as laws: nothing here speaks of one function. Each lemma states its own conditions. -/
import Derived.Test.YtgkpplbomciehaaCdt05
import Derived.Test.YtgkpplbomciehaaCdt03
import Derived.Test.YtgkpplbomciehaaCdt02
import Derived.BigQuiet
import Derived.Deep.DeepCutAuto
import Derived.Deep.QuietTactic
import Derived.Deep.RegionLawGrows
import Derived.Deep.MidRow
import Derived.Deep.WholeRow
import Derived.Great.Walk
import Derived.Outline
import Derived.WalkLawsBesides
import Derived.WalkSpells
import Derived.Laws.StructEq
namespace Go.Proofs.Ytgkpplbomciehaa
open Go.RowKit
theorem run_alloc_ {P : Program} {ρ : Operand → Value} {o : Oper} {w : World} (ty : TypeId) (ho : o.op = .alloc ty) {i : TypeInfo} (hi : P.info? ty = some i) {z : Value} (hz : i.zero = some z) :
    (execOp ρ o).run P w = .ok (.value (.pointer (some ⟨w.heap.size, 0, none⟩))) (w.alloc (.cells z.cells ty)) := by
  unfold execOp
  simp [ho, Instr.alloc, zeroValue, typeInfo, hi, hz, newVar, newRow, Sem.run_bind]
/-- 'x := l[i]': load, a new block, store -/
theorem wpList_copy {P : Program} {ops : Array Oper} {rest : List Oper} {o1 o2 o3 : Oper} {a : Act} {w : World} {Q : Exit → Act → World → Prop} (ty : TypeId) (x y z : Operand) (hg1 : o1.guard = none) (hg2 : o2.guard = none) (hg3 : o3.guard = none)
    (ho1 : o1.op = .load ty x) (ho2 : o2.op = .alloc ty) (ho3 : o3.op = .store ty y z) (b o : Nat) (hx : a.eval x = .pointer (some ⟨b, o, none⟩)) (cs : List Value) (hc : CellsAt w b o cs)
    {t : TypeId} {size bytes : Nat} (E : Elem P t ty size bytes) (d : TypeDesc) (hu : P.underlying ty = some d) (hd : d.isRow = true) (hl : cs.length = size) (hone : ∀ u ∈ cs, u.oneCell' = true)
    (hy : ((a.put o1.dst (.agg cs.toArray)).put o2.dst (.pointer (some ⟨w.heap.size, 0, none⟩))).eval y = .pointer (some ⟨w.heap.size, 0, none⟩))
    (hz : ((a.put o1.dst (.agg cs.toArray)).put o2.dst (.pointer (some ⟨w.heap.size, 0, none⟩))).eval z = .agg cs.toArray)
    (h : wpList P ops Q rest (((a.put o1.dst (.agg cs.toArray)).put o2.dst (.pointer (some ⟨w.heap.size, 0, none⟩))).put o3.dst undef) (w.alloc (.cells cs.toArray ty))) : wpList P ops Q (o1 :: o2 :: o3 :: rest) a w := by
  obtain ⟨i, zv, hi, hz0, hz1, hz2, hz3⟩ := E.inf
  refine wpList_load_mid hg1 ty x ho1 b o hx cs d hc hu hd (by rw [hi, Option.map_some, hz1, hl]) ?_
  refine Great.wpList_runTo hg2 o2.dst rfl _ _ (run_alloc_ ty ho2 hi hz0) ?_
  refine wpList_store_row hg3 ty y z ho3 w.heap.size cs.toArray hy hz ty zv.cells (heap_alloc_last _ _) (by rw [hi, Option.map_some, hz1]; simp [hl]) (by simp [hz3, hl]) (all_oneCell_toArray hone) ?_
  rw [World.setRow_alloc_new]
  exact h
theorem und_of {o : Option TypeDesc} (h : o.map (·.isRow) = some true) : ∃ d, o = some d ∧ d.isRow = true := by
  cases o with
  | none => cases h
  | some d => exact ⟨d, rfl, by simpa using h⟩
/-- where the elements of a slice lie -/
theorem Sl.lies {α : Type} {r : Rep α} {w : World} {A : Option Addr} {n c : Nat} {xs : List α} (h : Sl r w (.slice A n c) xs) (hp : 0 < xs.length) : ∃ b o, A = some ⟨b, o, none⟩ ∧ ∀ k x, xs[k]? = some x → r.At w b (o + k * r.size) x := by
  obtain ⟨A', c', hv, -, -, h4⟩ := h
  injection hv with hv
  subst hv
  exact h4 hp
/-- where an element of a list of commands lies -/
theorem Bel.row {w W : World} (h : Bel w W) {G : Nat} (hG : w.heap.size ≤ G) (cs : Array Value) : Bel w (W.setRow G cs) :=
  ⟨h.os, h.tape, h.output, by rw [setRow_size]; exact h.size, fun k hk => (setRow_other W G k cs (by omega)).trans (h.block k hk)⟩
theorem Blk.row_same {W : World} {G : Nat} {t : TypeId} {old : Array Value} (h : Blk W G t old) (cs : Array Value) : Blk (W.setRow G cs) G t cs := setRow_heap W G old cs t (0, 0) h
theorem Blk.row_other {W : World} {G H : Nat} {t : TypeId} {old : Array Value} (h : Blk W G t old) (hn : G ≠ H) (cs : Array Value) : Blk (W.setRow H cs) G t old := (setRow_other W H G cs hn).trans h
section
variable {P : Program} {md : Region.Mode} {ops : Array Oper} {Q : Exit → Act → World → Prop} {S : World → Prop} {fuel : Nat} {listed : Array Bool} {a : Act} {w : World} {i j : Nat}
/-- an operation comes up, and the rest in whatever order -/
def StepAt (P : Program) (md : Region.Mode) (ops : Array Oper) (Q : Exit → Act → World → Prop) (S : World → Prop) (fuel : Nat) (listed : Array Bool) (a : Act) (w : World) (i : Nat) : Prop :=
  wpOp P ops Q i (fun a' w' => S w' ∧ wpAnyH P md ops Q S fuel (listed.setIfInBounds i true) a' w') a w
theorem st_two (hr : Region.ready md ops listed = [i, j]) (h : StepAt P md ops Q S fuel listed a w i) (h' : StepAt P md ops Q S fuel listed a w j) : wpAnyH P md ops Q S (fuel + 1) listed a w :=
  wpAnyH_all hr (by simp) fun k hk => by
    rcases List.mem_cons.1 hk with rfl | hk
    · exact h
    · obtain rfl : k = j := by simpa using hk
      exact h'
end
theorem run_loadRow {P : Program} {o : Oper} {ρ : Operand → Value} {W : World} (ty : TypeId) (x : Operand) (ho : o.op = .load ty x) {t : TypeId} {size bytes : Nat} (El : Elem P t ty size bytes) (b f : Nat) (hx : ρ x = .pointer (some ⟨b, f, none⟩)) (cs : List Value) (hc : CellsAt W b f cs) (hl : cs.length = size)
    (hd : (P.underlying ty).map (·.isRow) = some true) : (execOp ρ o).run P W = .ok (.value (.agg cs.toArray)) W := by
  obtain ⟨i, zv, hi, hz0, hz1, hz2, hz3⟩ := El.inf
  obtain ⟨d, hu, hd⟩ := und_of hd
  unfold execOp
  simp only [ho, hx, Instr.loadAt, Instr.sureAddr, Sem.run_bind, Sem.run_pure, Result.andThen_ok, run_loadVar_mid W b f ty cs d hc hu hd (by rw [hi, Option.map_some, hz1, hl])]
section
variable {P : Program} {ops : Array Oper} {Q : Exit → Act → World → Prop} {rest : List Oper} {a : Act} {w : World}
/-- so many operations that need nothing but the frame -/
def quietN (P : Program) (ops : Array Oper) : Nat → List Oper → Act → World → Option (Act × World)
  | 0, _, a, w => some (a, w)
  | _ + 1, [], _, _ => none
  | n + 1, o :: rest, a, w =>
    if Region.wanted o (yielded ops a.tmps) then
      match (execOp a.eval o).run P w with
      | .ok (.value v) w' => quietN P ops n rest (a.put o.dst v) w'
      | _ => none
    else quietN P ops n rest (a.put o.dst undef) w
def putAll (a : Act) : List (Option Tmp × Value) → Act
  | [] => a
  | x :: l => putAll (a.put x.1 x.2) l
/-- the same, what is written told as a list -/
def quietL (P : Program) (ops : Array Oper) : Nat → List Oper → Act → World → Option (List (Option Tmp × Value) × World)
  | 0, _, _, w => some ([], w)
  | _ + 1, [], _, _ => none
  | n + 1, o :: rest, a, w =>
    if Region.wanted o (yielded ops a.tmps) then
      match (execOp a.eval o).run P w with
      | .ok (.value v) w' =>
        match quietL P ops n rest (a.put o.dst v) w' with
        | some x => some ((o.dst, v) :: x.1, x.2)
        | none => none
      | _ => none
    else
      match quietL P ops n rest (a.put o.dst undef) w with
      | some x => some ((o.dst, undef) :: x.1, x.2)
      | none => none
theorem quietL_N : ∀ (n : Nat) (l : List Oper) (a : Act) (w : World) (ds : List (Option Tmp × Value)) (w' : World), quietL P ops n l a w = some (ds, w') → quietN P ops n l a w = some (putAll a ds, w')
  | 0, _, a, w, ds, w', h => by
    unfold quietL at h
    injection h with h
    injection h with h1 h2
    subst h1 h2
    rfl
  | n + 1, [], _, _, _, _, h => by unfold quietL at h; cases h
  | n + 1, o :: l, a, w, ds, w', h => by
    unfold quietL at h
    unfold quietN
    split at h
    · rename_i hw
      rw [if_pos hw]
      split at h
      · rename_i v w2 hr
        split at h
        · rename_i x hx
          injection h with h
          injection h with h1 h2
          subst h1 h2
          exact quietL_N n l _ _ _ _ hx
        · cases h
      · cases h
    · rename_i hw
      rw [if_neg hw]
      split at h
      · rename_i x hx
        injection h with h
        injection h with h1 h2
        subst h1 h2
        exact quietL_N n l _ _ _ _ hx
      · cases h
theorem lw_many (n : Nat) (ds : List (Option Tmp × Value)) (hrunL : quietL P ops n rest a w = some (ds, w)) (h : wpList P ops Q (rest.drop n) (putAll a ds) w) : wpList P ops Q rest a w := by
  have hrun := quietL_N n rest a w ds w hrunL
  suffices H : ∀ (n : Nat) (l : List Oper) (a a' : Act) (w w' : World), quietN P ops n l a w = some (a', w') → wpList P ops Q (l.drop n) a' w' → wpList P ops Q l a w from H n rest a _ w w hrun h
  intro n
  induction n with
  | zero =>
    intro l a a' w w' h1 h2
    unfold quietN at h1
    injection h1 with h1
    injection h1 with h1 h3
    subst h1 h3
    exact h2
  | succ n ih =>
    intro l a a' w w' h1 h2
    cases l with
    | nil => unfold quietN at h1; cases h1
    | cons o l =>
      unfold quietN at h1
      refine wpList_step fun K hK => ?_
      split at h1
      · rename_i hw
        rw [if_pos hw]
        split at h1
        · rename_i v w2 hr
          unfold Oper.wp
          rw [hr, Oper.upon_value]
          exact hK _ _ (ih l _ _ _ _ h1 h2)
        · cases h1
      · rename_i hw
        rw [if_neg hw]
        exact hK _ _ (ih l _ _ _ _ h1 h2)
end
section
variable {o : Oper} {ρ : Operand → Value} {W : World} {x y : Operand} {b f : Nat} {v : Value} {t t2 : TypeId} {k l : Int} {s u : ByteArray} {c : Bool}
theorem rl_int (ho : o.op = .load 3 x) (hx : ρ x = .pointer (some ⟨b, f, none⟩)) (hc : W.cell? ⟨b, f, none⟩ = some v) : (execOp ρ o).run Try.prog W = .ok (.value v) W := by
  simp [execOp, ho, hx, hc, go_sem]
variable {P : Program}
theorem rb_neqI (ho : o.op = .binOp .neq 3 x y t2) (hx : ρ x = .int .i64 k) (hy : ρ y = .int .i64 l) (hc : (k != l) = c) : (execOp ρ o).run Try.prog W = .ok (.value (.bool c)) W := by
  subst hc
  simp [execOp, ho, hx, hy, go_sem]
theorem rb_eqlI (ho : o.op = .binOp .eql 3 x y t2) (hx : ρ x = .int .i64 k) (hy : ρ y = .int .i64 l) (hc : (k == l) = c) : (execOp ρ o).run Try.prog W = .ok (.value (.bool c)) W := by
  subst hc
  simp [execOp, ho, hx, hy, go_sem]
end
/-- a list of operations that is left: shut, so that nobody looks into it -/
structure WL (P : Program) (ops : Array Oper) (Q : Exit → Act → World → Prop) (l : List Oper) (a : Act) (w : World) : Prop where
  out : wpList P ops Q l a w
section
variable {P : Program} {ops : Array Oper} {Q : Exit → Act → World → Prop} {rest : List Oper} {o : Oper} {a : Act} {w : World}
theorem wl_region {id : Nat} {l : List Oper} (h : WL P l.toArray Q l a w) : (Code.region id l.toArray false).wp P Q a w := wp_region_lit h.out
theorem wl_nil (h : Q .normal a w) : WL P ops Q [] a w := ⟨h⟩
theorem wl_do (d : Option Tmp) (v : Value) (hd : o.dst = d) (hw : Region.wanted o (yielded ops a.tmps) = true) (hrun : (execOp a.eval o).run P w = .ok (.value v) w) (h : WL P ops Q rest (a.put d v) w) : WL P ops Q (o :: rest) a w :=
  ⟨lw_do d v hd hw hrun h.out⟩
theorem wl_many (n : Nat) (rest' : List Oper) (ds : List (Option Tmp × Value)) (hr : rest.drop n = rest') (hrunL : quietL P ops n rest a w = some (ds, w)) (h : WL P ops Q rest' (putAll a ds) w) : WL P ops Q rest a w :=
  ⟨lw_many n ds hrunL (hr ▸ h.out)⟩
theorem wl_call (d : Option Tmp) (hd : o.dst = d) (hw : Region.wanted o (yielded ops a.tmps) = true) (f : FuncId) (args : Array Value) (hrun : (execOp a.eval o).run P w = .ok (.enter f args) w) {R : Ending → World → Prop} (hc : Calls P f args w R)
    (h : ∀ e w', R e w' → ∃ v, e = .returned v ∧ WL P ops Q rest (a.put d v) w') : WL P ops Q (o :: rest) a w :=
  ⟨lw_call d hd hw f args hrun hc fun e w' hR => by
    obtain ⟨v, he, hW⟩ := h e w' hR
    exact ⟨v, he, hW.out⟩⟩
end
theorem blkRange {W : World} {G : Nat} {t : TypeId} {cs : Array Value} (h : Blk W G t cs) (o : Nat) {vs : List Value} (hv : (cs.extract o (o + vs.length)).toList = vs) : CellsAt W G o vs := fun j u hu => World.rangeAt_of_block h o vs.length j u (by rw [hv]; exact hu)
theorem grownBel {w0 w W : World} {g : Nat} (h0 : Bel w0 w) (hg : w0.heap.size ≤ g) (h : w.grownBy W (some g)) : Bel w0 W :=
  Below.grown h0 h h0.size (fun k hk => by
    have : g = k := Option.some.inj hk
    omega)
theorem rb_leqI {o : Oper} {ρ : Operand → Value} {W : World} {x y : Operand} {t2 : TypeId} {k l : Int} {c : Bool} (ho : o.op = .binOp .leq 3 x y t2) (hx : ρ x = .int .i64 k) (hy : ρ y = .int .i64 l) (hc : decide (k ≤ l) = c) : (execOp ρ o).run Try.prog W = .ok (.value (.bool c)) W := by
  subst hc
  simp [execOp, ho, hx, hy, go_sem]
theorem rb_gtrI {o : Oper} {ρ : Operand → Value} {W : World} {x y : Operand} {t2 : TypeId} {k l : Int} {c : Bool} (ho : o.op = .binOp .gtr 3 x y t2) (hx : ρ x = .int .i64 k) (hy : ρ y = .int .i64 l) (hc : decide (l < k) = c) : (execOp ρ o).run Try.prog W = .ok (.value (.bool c)) W := by
  subst hc
  simp [execOp, ho, hx, hy, go_sem]
/-- an expression just where there must be one -/
theorem rb_eqlR {o : Oper} {ρ : Operand → Value} {W : World} {x y : Operand} {t2 : TypeId} {k l : Int} {c : Bool} (ho : o.op = .binOp .eql 28 x y t2) (hx : ρ x = .int .i64 k) (hy : ρ y = .int .i64 l) (hc : (k == l) = c) : (execOp ρ o).run Try.prog W = .ok (.value (.bool c)) W := by
  subst hc
  simp [execOp, ho, hx, hy, go_sem]
section
variable {o : Oper} {ρ : Operand → Value} {W : World} {x y : Operand} {t2 : TypeId}
theorem rb_lssI {k l : Int} {c : Bool} (ho : o.op = .binOp .lss 3 x y t2) (hx : ρ x = .int .i64 k) (hy : ρ y = .int .i64 l) (hc : decide (k < l) = c) : (execOp ρ o).run Try.prog W = .ok (.value (.bool c)) W := by
  subst hc
  simp [execOp, ho, hx, hy, go_sem]
end
end Go.Proofs.Ytgkpplbomciehaa
