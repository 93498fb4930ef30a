/- Code as it lies in memory, and what is wrong with it: plain, and laws of steps. A program's code runs as the program does. Tasks put onto a frame, by the document: walked. Structs in walks by slots: allocated, stored; three operations that may come up. Nothing here speaks of one function. A call, by the document's machine: walked. Each lemma states its own conditions. -/
import Derived.Test.YtgkpplbomciehaaCdt04
import Derived.Test.YtgkpplbomciehaaCdt21
import Derived.Test.YtgkpplbomciehaaCdt25
import Derived.Test.YtgkpplbomciehaaCdt26
import Derived.Test.YtgkpplbomciehaaCdt22
namespace Go.Proofs.Ytgkpplbomciehaa
open Go.RowKit
abbrev INS : TypeId := 96
abbrev CDT : TypeId := 26
def Ins.cells (x : Ins) : List Value := [.int .i64 x.kind, .int .i64 x.a, .int .i64 x.b]
def insR : Rep Ins where
  size := 3
  R _ cs x := cs = x.cells
  len h := by subst h; rfl
  keep _ h := h
theorem ins_one (x : Ins) : ∀ u ∈ x.cells, u.oneCell' = true := by
  intro u hu
  simp [Ins.cells] at hu
  rcases hu with rfl | rfl | rfl <;> rfl
theorem elIN : Elem Try.prog 22 INS 3 24 := Elem.mk_ (z := .agg #[.int .i64 0, .int .i64 0, .int .i64 0]) (by kernel_rfl) (by kernel_rfl) rfl (by decide)
/-- a value is code -/
def CodeR (w : World) (v : Value) (c : Cd) : Prop := ∃ vi vf vz, v = .agg #[vi, vf, vz] ∧ Sl insR w vi c.ins ∧ Sl intR w vf c.first ∧ Sl intsR w vz c.sizes
theorem CodeR.keep {w w' : World} {v : Value} {c : Cd} (hb : Bel w w') (h : CodeR w v c) : CodeR w' v c := by
  obtain ⟨vi, vf, vz, h0, h1, h2, h3⟩ := h
  exact ⟨vi, vf, vz, h0, h1.keep hb, h2.keep hb, h3.keep hb⟩
/-- is A one that may be? -/
def insA (c : Cd) (i : Ins) : Bool :=
  if i.kind = 2 then decide (Num i.a) else if i.kind = 10 ∨ i.kind = 11 then decide (0 ≤ i.a ∧ i.a ≤ (c.ins.length : Int) - 1) else if i.kind = 5 then decide (4 ≤ i.a ∧ i.a ≤ 10)
  else if i.kind = 12 then (decide (0 ≤ i.a ∧ i.a ≤ (c.first.length : Int) - 1) && decide (0 ≤ i.b ∧ i.b ≤ 3)) else if (i.kind = 9 ∨ i.kind = 13) ∨ i.kind = 14 then true else decide (0 ≤ i.a)
def insE (c : Cd) (i : Ins) : Int :=
  if ¬ (1 ≤ i.kind ∧ i.kind ≤ 14) then 7 else if insA c i = false then 3 else if ((((i.kind = 9 ∨ i.kind = 13) ∨ i.kind = 14) ∧ ¬ i.a = 0) ∨ (¬ i.kind = 12 ∧ ¬ i.b = 0)) then 1 else 0
def insEs (c : Cd) : List Ins → Int
  | [] => 0
  | x :: xs => if insE c x ≠ 0 then insE c x else insEs c xs
theorem insEs_drop {c : Cd} {l : List Ins} {j : Nat} {x : Ins} (h : l[j]? = some x) : insEs c (l.drop j) = if insE c x ≠ 0 then insE c x else insEs c (l.drop (j + 1)) := by
  obtain ⟨hl, rfl⟩ := List.getElem?_eq_some_iff.1 h
  rw [List.drop_eq_getElem_cons hl, insEs]
/-- where functions begin, and sizes, are in range -/
def FirstOk (c : Cd) : Prop := ∀ x ∈ c.first, 0 ≤ x ∧ x ≤ (c.ins.length : Int) - 1
def SizesOk_ (c : Cd) : Prop := ∀ z ∈ c.sizes, ∀ y ∈ z, 0 ≤ y ∧ y ≤ (8 : Int)
/-- what is wrong with code -/
noncomputable def codeE (c : Cd) : Int := open Classical in
  if 3000 < c.ins.length then 2 else if (c.first.length : Int) = 0 ∨ ¬ (c.first.length : Int) = c.sizes.length then 1 else if ¬ (FirstOk c ∧ SizesOk_ c) then 3 else insEs c c.ins
section
variable {c : Cd}
theorem codeE_many (h : 3000 < c.ins.length) : codeE c = 2 := by unfold codeE; rw [if_pos h]
theorem codeE_form (h : ¬ 3000 < c.ins.length) (h2 : (c.first.length : Int) = 0 ∨ ¬ (c.first.length : Int) = c.sizes.length) : codeE c = 1 := by unfold codeE; rw [if_neg h, if_pos h2]
theorem codeE_range (h : ¬ 3000 < c.ins.length) (h2 : ¬ ((c.first.length : Int) = 0 ∨ ¬ (c.first.length : Int) = c.sizes.length)) (h3 : ¬ (FirstOk c ∧ SizesOk_ c)) : codeE c = 3 := by unfold codeE; rw [if_neg h, if_neg h2, if_pos h3]
theorem codeE_ins (h : ¬ 3000 < c.ins.length) (h2 : ¬ ((c.first.length : Int) = 0 ∨ ¬ (c.first.length : Int) = c.sizes.length)) (h3 : FirstOk c ∧ SizesOk_ c) : codeE c = insEs c c.ins := by unfold codeE; rw [if_neg h, if_neg h2, if_neg (fun h => h h3)]
theorem not_first {j : Nat} {x : Int} (h : c.first[j]? = some x) (hx : ¬ (0 ≤ x ∧ x ≤ (c.ins.length : Int) - 1)) : ¬ (FirstOk c ∧ SizesOk_ c) := fun hh => hx (hh.1 x (List.mem_of_getElem? h))
theorem not_sizes {j k : Nat} {z : List Int} {y : Int} (h : c.sizes[j]? = some z) (h2 : z[k]? = some y) (hx : ¬ (0 ≤ y ∧ y ≤ 8)) : ¬ (FirstOk c ∧ SizesOk_ c) := fun hh => hx (hh.2 z (List.mem_of_getElem? h) y (List.mem_of_getElem? h2))
end
section
variable {ρ : Operand → Value} {o : Oper} {W : World} {x y : Operand} {b f : Nat} {v : Value}
theorem rl_ins (ho : o.op = .load 22 x) (hx : ρ x = .pointer (some ⟨b, f, none⟩)) (hc : W.cell? ⟨b, f, none⟩ = some v) : (execOp ρ o).run Try.prog W = .ok (.value v) W := by
  simp [execOp, ho, hx, go_sem, hc]
theorem rl_cd {v0 v1 v2 : Value} (ho : o.op = .load CDT x) (hx : ρ x = .pointer (some ⟨b, f, none⟩)) (hc : CellsAt W b f [v0, v1, v2]) : (execOp ρ o).run Try.prog W = .ok (.value (.agg #[v0, v1, v2])) W := by
  obtain ⟨d, hu, hd⟩ := und_of (o := Try.prog.underlying CDT) (by kernel_rfl)
  have hs : (Try.prog.info? CDT).map (·.size) = some ([v0, v1, v2].length) := by kernel_rfl
  unfold execOp
  simp only [ho, hx, Instr.loadAt, Instr.sureAddr, Sem.run_bind, Sem.run_pure, Result.andThen_ok, run_loadVar_mid W b f CDT [v0, v1, v2] d hc hu hd hs]
end
theorem sizeP_comp {xs : List PE} (h : ∀ x ∈ xs, ∀ m, 0 ≤ m → x.size m ≤ m → (x.comp.length : Int) = x.size m) : ∀ a m, 1 ≤ a → sizeP xs a m ≤ m → a + ((compA xs).length : Int) = sizeP xs a m := by
  induction xs with
  | nil => intro a m _ _; rw [compA, sizeP]; simp
  | cons x xs ih =>
    intro a m h1 h2
    rw [sizeP] at h2 ⊢
    by_cases h3 : m < a
    · rw [if_pos h3] at h2; omega
    rw [if_neg h3] at h2 ⊢
    have hs := x.size_le (m - a) (by omega)
    have hx : a + x.size (m - a) ≤ m := by
      by_cases h4 : a + x.size (m - a) ≤ m
      · exact h4
      · exfalso
        cases xs with
        | nil => rw [sizeP] at h2; omega
        | cons y ys => rw [sizeP, if_pos (by omega)] at h2; omega
    have h5 := h x (by simp) (m - a) (by omega) (by omega)
    have h6 := ih (fun y hy => h y (by simp [hy])) (a + x.size (m - a)) m (by omega) h2
    rw [compA, List.length_append]
    omega
theorem PE.comp_size : ∀ e : PE, ∀ m, 0 ≤ m → e.size m ≤ m → (e.comp.length : Int) = e.size m :=
  PE.ind fun k n args ih m hm h => by
    rw [PE.size] at h ⊢
    have := sizeP_comp ih 1 m (by omega) h
    rw [PE.comp, List.length_append, List.length_singleton]
    omega
theorem PE.err_len {z : List Int} {e : PE} (h : e.err z = 0) : e.comp.length ≤ 15 := by
  unfold PE.err at h
  split at h
  · omega
  · have := e.comp_size 15 (by omega) (by omega)
    omega
theorem compA_len {z : List Int} : ∀ {l : List PE}, (∀ x ∈ l, x.err z = 0) → (compA l).length ≤ 15 * l.length
  | [], _ => by rw [compA]; simp
  | x :: xs, h => by
    have h1 := PE.err_len (h x (by simp))
    have h2 := compA_len (l := xs) fun y hy => h y (by simp [hy])
    rw [compA, List.length_append, List.length_cons]
    omega
theorem compTo_pre (ps : List PF) (j : Nat) : ∀ n, j ≤ n → ∃ r, compTo ps n = compTo ps j ++ r
  | 0, h => ⟨[], by rw [show j = 0 by omega]; simp⟩
  | n + 1, h => by
    by_cases he : j = n + 1
    · exact ⟨[], by rw [he]; simp⟩
    obtain ⟨r, hr⟩ := compTo_pre ps j n (by omega)
    exact ⟨r ++ compF ps n (compTo ps n).length (ps.getD n noF), by rw [compTo, hr, List.append_assoc]⟩
theorem own_shape {w : World} {base size n : Nat} {e : TypeId} {v : Value} {xs : List Value} (ho : w.ownsRow base e size v n xs) : ∃ A c, v = .slice A n c := by
  rcases ho.2 with ⟨rfl, rfl⟩ | ⟨g, cap, cur, rfl, -⟩
  · exact ⟨_, _, rfl⟩
  · exact ⟨_, _, rfl⟩
section
variable {P : Program} {ops : Array Oper} {Q : Exit → Act → World → Prop} {S : World → Prop} {fuel : Nat} {listed : Array Bool} {N : Nat} {s : List (Nat × Value)} {w : World}
variable {rest : List Oper} {o1 o2 : Oper}
/-- .. in the text's order -/
theorem wa_alsi (ty : TypeId) (d1 d2 : Nat) (hg : o1.guard = none ∧ o2.guard = none) (hop : o1.op = .alloc ty ∧ o2.op = .store ty (.tmp d2) (.tmp d1)) (hd : okDst N o1 (some d2) = true ∧ okDst N o2 none = true) (cs : List Value)
    (hkx : ∀ v, knows ((d2, v) :: s) (.tmp d1) = true) (hx : ∀ v, evl ((d2, v) :: s) (.tmp d1) = .agg cs.toArray) {size bytes : Nat} (inf : ∃ i z, P.info? ty = some i ∧ i.zero = some z ∧ i.size = size ∧ i.bytes = bytes ∧ z.cells.size = size) (hl : cs.length = size) (hone : ∀ u ∈ cs, u.oneCell' = true)
    (h : WA P ops Q rest N ((d2, .pointer (some ⟨w.heap.size, 0, none⟩)) :: s) (w.alloc (.cells cs.toArray ty))) : WA P ops Q (o1 :: o2 :: rest) N s w := by
  obtain ⟨i, zv, hi, hz0, hz1, hz2, hz3⟩ := inf
  refine ⟨fun a ha => ?_⟩
  have A2 := ha.put hd.1 (.pointer (some ⟨w.heap.size, 0, none⟩))
  refine Great.wpList_runTo hg.1 o1.dst rfl _ _ (run_alloc_ ty hop.1 hi hz0) ?_
  rw [okDst_dst hd.1]
  refine wpList_store_row hg.2 ty (.tmp d2) (.tmp d1) hop.2 w.heap.size cs.toArray (A2.known ?_ ?_) (A2.known (hkx _) (hx _)) ty zv.cells (heap_alloc_last _ _) (by rw [hi, Option.map_some, hz1]; simp [hl]) (by simp [hz3, hl]) (all_oneCell_toArray hone) ?_
  · unfold putS knows lk
    simp
  · unfold putS evl lk
    simp
  · rw [World.setRow_alloc_new, okDst_dst hd.2]
    exact h.out _ (A2.put hd.2 undef)
end
theorem run_ix0i1 {P : Program} {ρ : Operand → Value} {o : Oper} {w : World} {t e : TypeId} {bytes : Nat} (E : Elem P t e 1 bytes) {x i : Operand} (b n c k : Nat) (ho : o.op = .indexAddr t x i) (hx : ρ x = .slice (some ⟨b, 0, none⟩) n c) (hi : ρ i = .int .i64 (k : Int)) (hk : k < n) :
    (execOp ρ o).run P w = .ok (.value (.pointer (some ⟨b, k, none⟩))) w := by
  have := run_ix0 E (w := w) b n c k ho hx hi hk
  rwa [Nat.mul_one] at this
end Go.Proofs.Ytgkpplbomciehaa
