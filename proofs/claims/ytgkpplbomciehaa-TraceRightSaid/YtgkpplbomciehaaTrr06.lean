/- Expressions, commands and functions of programs, copied: laws. One part of an expression of a program, by the program: walked. Expressions of a program, by the program: walked. Each lemma states its own conditions. -/
import Derived.Test.YtgkpplbomciehaaTrr05
import Derived.Test.YtgkpplbomciehaaTrr04
import Derived.Test.YtgkpplbomciehaaTrr02
namespace Go.Proofs.Ytgkpplbomciehaa
open Go.RowKit
theorem elPE : Elem Try.prog 45 47 3 40 := Elem.mk_ (z := .agg #[.int .i64 0, .int .i64 0, .slice none 0 0]) (by kernel_rfl) (by kernel_rfl) rfl (by decide)
theorem elPC : Elem Try.prog 76 120 12 176 := Elem.mk_ (z := .agg #[.int .i64 0, .int .i64 0, .int .i64 0, .int .i64 0, .int .i64 0, .slice none 0 0, .int .i64 0, .int .i64 0, .slice none 0 0, .slice none 0 0, .slice none 0 0, .slice none 0 0]) (by kernel_rfl) (by kernel_rfl) rfl (by decide)
theorem elPF : Elem Try.prog 38 78 6 96 := Elem.mk_ (z := .agg #[.int .i64 0, .slice none 0 0, .slice none 0 0, .int .i64 0, .int .i64 0, .slice none 0 0]) (by kernel_rfl) (by kernel_rfl) rfl (by decide)
theorem elEV : Elem Try.prog 27 63 6 48 := Elem.mk_ (z := .agg #[.int .i64 0, .int .i64 0, .int .i64 0, .int .i64 0, .int .i64 0, .int .i64 0]) (by kernel_rfl) (by kernel_rfl) rfl (by decide)
theorem elI : Elem Try.prog 23 3 1 8 := Elem.mk_ (z := .int .i64 0) (by kernel_rfl) (by kernel_rfl) rfl (by decide)
theorem elII : Elem Try.prog 24 23 1 24 := Elem.mk_ (z := .slice none 0 0) (by kernel_rfl) (by kernel_rfl) rfl (by decide)
theorem undPE : ∃ d, Try.prog.underlying 47 = some d ∧ d.isRow = true := und_of (by kernel_rfl)
theorem undPC : ∃ d, Try.prog.underlying 120 = some d ∧ d.isRow = true := und_of (by kernel_rfl)
theorem undPF : ∃ d, Try.prog.underlying 78 = some d ∧ d.isRow = true := und_of (by kernel_rfl)
theorem peR_one {W : World} {cs : List Value} {x : PE} (h : peR.R W cs x) : ∀ u ∈ cs, u.oneCell' = true := by
  obtain ⟨k, n, args⟩ := x
  obtain ⟨v, rfl, h1⟩ := PER.opened h
  obtain ⟨_, _, rfl, -⟩ := h1
  simp [Value.oneCell']
theorem pcR_one {W : World} {cs : List Value} {x : PC} (h : pcR.R W cs x) : ∀ u ∈ cs, u.oneCell' = true := by
  obtain ⟨k, u, g, i, e, args, thn, els⟩ := x
  obtain ⟨vi, ve, va, vt, vs, rfl, h1, h2, h3, h4, h5⟩ := PCR.opened h
  obtain ⟨_, _, rfl, -⟩ := h1
  obtain ⟨_, _, rfl, -⟩ := h2
  obtain ⟨_, _, rfl, -⟩ := h3
  obtain ⟨_, _, rfl, -⟩ := h4
  obtain ⟨_, _, rfl, -⟩ := h5
  simp [Value.oneCell']
theorem pfR_one {W : World} {cs : List Value} {x : PF} (h : pfR.R W cs x) : ∀ u ∈ cs, u.oneCell' = true := by
  obtain ⟨vz, vc, vr, rfl, h1, h2, h3⟩ := h
  obtain ⟨_, _, rfl, -⟩ := h1
  obtain ⟨_, _, rfl, -⟩ := h2
  obtain ⟨_, _, rfl, -⟩ := h3
  simp [Value.oneCell']
section
variable {ops : Array Oper} {rest : List Oper} {o1 o2 o3 : Oper} {a : Act} {w : World} {Q : Exit → Act → World → Prop}
/-- an expression copied -/
theorem copyPE (x y z : Operand) (hg1 : o1.guard = none) (hg2 : o2.guard = none) (hg3 : o3.guard = none)
    (ho1 : o1.op = .load 47 x) (ho2 : o2.op = .alloc 47) (ho3 : o3.op = .store 47 y z) (b o : Nat) (hx : a.eval x = .pointer (some ⟨b, o, none⟩)) (cs : List Value) (hc : CellsAt w b o cs) {W : World} {c : PE} (hr : PER W c cs)
    (hy : ((a.put o1.dst (.agg cs.toArray)).put o2.dst (.pointer (some ⟨w.heap.size, 0, none⟩))).eval y = .pointer (some ⟨w.heap.size, 0, none⟩))
    (hz : ((a.put o1.dst (.agg cs.toArray)).put o2.dst (.pointer (some ⟨w.heap.size, 0, none⟩))).eval z = .agg cs.toArray)
    (h : wpList Try.prog ops Q rest (((a.put o1.dst (.agg cs.toArray)).put o2.dst (.pointer (some ⟨w.heap.size, 0, none⟩))).put o3.dst undef) (w.alloc (.cells cs.toArray 47))) : wpList Try.prog ops Q (o1 :: o2 :: o3 :: rest) a w := by
  obtain ⟨d, hu, hd⟩ := undPE
  exact wpList_copy _ x y z hg1 hg2 hg3 ho1 ho2 ho3 b o hx cs hc elPE d hu hd (peR.len hr) (peR_one hr) hy hz h
/-- a command copied -/
theorem copyPC (x y z : Operand) (hg1 : o1.guard = none) (hg2 : o2.guard = none) (hg3 : o3.guard = none)
    (ho1 : o1.op = .load 120 x) (ho2 : o2.op = .alloc 120) (ho3 : o3.op = .store 120 y z) (b o : Nat) (hx : a.eval x = .pointer (some ⟨b, o, none⟩)) (cs : List Value) (hc : CellsAt w b o cs) {W : World} {c : PC} (hr : PCR W c cs)
    (hy : ((a.put o1.dst (.agg cs.toArray)).put o2.dst (.pointer (some ⟨w.heap.size, 0, none⟩))).eval y = .pointer (some ⟨w.heap.size, 0, none⟩))
    (hz : ((a.put o1.dst (.agg cs.toArray)).put o2.dst (.pointer (some ⟨w.heap.size, 0, none⟩))).eval z = .agg cs.toArray)
    (h : wpList Try.prog ops Q rest (((a.put o1.dst (.agg cs.toArray)).put o2.dst (.pointer (some ⟨w.heap.size, 0, none⟩))).put o3.dst undef) (w.alloc (.cells cs.toArray 120))) : wpList Try.prog ops Q (o1 :: o2 :: o3 :: rest) a w := by
  obtain ⟨d, hu, hd⟩ := undPC
  exact wpList_copy _ x y z hg1 hg2 hg3 ho1 ho2 ho3 b o hx cs hc elPC d hu hd (pcR.len hr) (pcR_one hr) hy hz h
/-- a function copied -/
theorem copyPF (x y z : Operand) (hg1 : o1.guard = none) (hg2 : o2.guard = none) (hg3 : o3.guard = none)
    (ho1 : o1.op = .load 78 x) (ho2 : o2.op = .alloc 78) (ho3 : o3.op = .store 78 y z) (b o : Nat) (hx : a.eval x = .pointer (some ⟨b, o, none⟩)) (cs : List Value) (hc : CellsAt w b o cs) {W : World} {c : PF} (hr : PFR W c cs)
    (hy : ((a.put o1.dst (.agg cs.toArray)).put o2.dst (.pointer (some ⟨w.heap.size, 0, none⟩))).eval y = .pointer (some ⟨w.heap.size, 0, none⟩))
    (hz : ((a.put o1.dst (.agg cs.toArray)).put o2.dst (.pointer (some ⟨w.heap.size, 0, none⟩))).eval z = .agg cs.toArray)
    (h : wpList Try.prog ops Q rest (((a.put o1.dst (.agg cs.toArray)).put o2.dst (.pointer (some ⟨w.heap.size, 0, none⟩))).put o3.dst undef) (w.alloc (.cells cs.toArray 78))) : wpList Try.prog ops Q (o1 :: o2 :: o3 :: rest) a w := by
  obtain ⟨d, hu, hd⟩ := undPF
  exact wpList_copy _ x y z hg1 hg2 hg3 ho1 ho2 ho3 b o hx cs hc elPF d hu hd (pfR.len hr) (pfR_one hr) hy hz h
end
/-- where an element lies -/
theorem Sl.elem {α : Type} {r : Rep α} {w : World} {A : Option Addr} {n c : Nat} {xs : List α} (h : Sl r w (.slice A n c) xs) {k : Nat} {x : α} (hk : xs[k]? = some x) : ∃ b o cs, A = some ⟨b, o, none⟩ ∧ r.R w cs x ∧ CellsAt w b (o + k * r.size) cs := by
  obtain ⟨b, o, rfl, h5⟩ := h.lies (by have := (List.getElem?_eq_some_iff.1 hk).1; omega)
  obtain ⟨cs, h6, h7⟩ := h5 k x hk
  exact ⟨b, o, cs, rfl, h6, h7⟩
/-- the cells of an expression, of a command -/
theorem peCells {w : World} {x : PE} {cs : List Value} (h : PER w x cs) : ∃ v, cs = [.int .i64 x.kind, .int .i64 x.n, v] ∧ Sl peR w v x.args := by
  obtain ⟨k, n, args⟩ := x
  exact PER.opened h
theorem pcCells {w : World} {x : PC} {cs : List Value} (h : PCR w x cs) : ∃ vi ve va vt vs, cs = [.int .i64 x.kind, .int .i64 x.var, .int .i64 x.fn, .int .i64 x.index.kind, .int .i64 x.index.n, vi, .int .i64 x.expr.kind, .int .i64 x.expr.n, ve, va, vt, vs] ∧
    Sl peR w vi x.index.args ∧ Sl peR w ve x.expr.args ∧ Sl peR w va x.args ∧ Sl pcR w vt x.thn ∧ Sl pcR w vs x.els := by
  obtain ⟨k, u, g, i, e, args, thn, els⟩ := x
  exact PCR.opened h
theorem args_any (k : Int) (w : World) : Calls Try.prog 157 #[.int .i64 k] w fun r w' => r = .returned (.int .i64 (arityE k)) ∧ w = w' := by
  by_cases h1 : k < 1
  · have e : Hid (arityE k = -1) := Lib.hid (by unfold arityE; rw [if_pos (Or.inl h1)])
    go_enter Try.func157, Try.ntmps157
    go_wp2
    go_ret
    exact ⟨by rw [e.out]; rfl, rfl⟩
  by_cases h2 : 10 < k
  · have e : Hid (arityE k = -1) := Lib.hid (by unfold arityE; rw [if_pos (Or.inr h2)])
    go_enter Try.func157, Try.ntmps157
    go_wp2
    go_ret
    exact ⟨by rw [e.out]; rfl, rfl⟩
  by_cases h3 : k ≤ 2
  · have e : Hid (arityE k = 0) := Lib.hid (by unfold arityE; rw [if_neg (by omega), if_pos h3])
    go_enter Try.func157, Try.ntmps157
    go_wp2
    go_ret
    exact ⟨by rw [e.out]; rfl, rfl⟩
  by_cases h4 : k = 3
  · subst h4
    go_enter Try.func157, Try.ntmps157
    go_wp2
    go_ret
    exact ⟨rfl, rfl⟩
  · have e : Hid (arityE k = 2) := Lib.hid (by unfold arityE; rw [if_neg (by omega), if_neg h3, if_neg h4])
    go_enter Try.func157, Try.ntmps157
    go_wp2
    go_ret
    exact ⟨by rw [e.out]; rfl, rfl⟩
set_option maxRecDepth 20000 in
set_option maxHeartbeats 4000000 in
theorem part_any (z : List Int) (hz : ∀ n ∈ z, 0 ≤ n) (e : PE) (val zv : Value) (w : World) (h : PEV w e val) (hs : Sl intR w zv z) :
    Calls Try.prog 145 #[val, zv] w fun r w' => r = .returned (.int .i64 (partP z e)) ∧ Bel w w' := by
  obtain ⟨v, rfl, A, c, rfl, hc, hm, -⟩ := h
  obtain ⟨Z, cz, rfl, hzc, hzm, hZ⟩ := hs
  have HZ := Lib.hid hZ
  have hlm : e.args.length ≤ 9223372036854775807 := by have := hm.1; simp only [maxLen] at this; omega
  have hlz : z.length ≤ 9223372036854775807 := by have := hzm.1; simp only [maxLen] at this; omega
  have HB : Hid (Bel w (w.alloc (.cells #[.int .i64 e.kind, .int .i64 e.n, .slice A e.args.length c] 47))) := Lib.hid ((Bel.rfl_ w).al _)
  have HAR : Hid (∀ W, Calls Try.prog 157 #[.int .i64 e.kind] W fun r w' => r = .returned (.int .i64 (arityE e.kind)) ∧ W = w') := Lib.hid (args_any _)
  clear hc hm hzc hzm hZ
  by_cases h1 : arityE e.kind < 0
  · have HR : Hid (partP z e = 7) := Lib.hid (by unfold partP; rw [if_pos h1])
    have d1 : decide (arityE e.kind < 0) = true := decide_eq_true h1
    clear h1 HZ hz
    generalize partP z e = T at *
    generalize arityE e.kind = ar at *
    generalize e.kind = k at *
    generalize e.n = n at *
    generalize e.args.length = L at *
    go_enter Try.func145, Try.ntmps145
    go_wp2_with fail
    refine (HAR.out _).mono ?_
    rintro r w1 ⟨rfl, rfl⟩
    go_wp2
    go_ret
    exact ⟨by rw [HR.out]; rfl, HB.out⟩
  have d1 : decide (arityE e.kind < 0) = false := decide_eq_false h1
  by_cases h2 : (e.args.length : Int) ≠ arityE e.kind
  · have HR : Hid (partP z e = 1) := Lib.hid (by unfold partP; rw [if_neg h1, if_pos h2])
    have d2 : ((e.args.length : Int) != arityE e.kind) = true := by simpa using h2
    clear h1 h2 HZ hz
    generalize partP z e = T at *
    generalize arityE e.kind = ar at *
    generalize e.kind = k at *
    generalize e.n = n at *
    generalize e.args.length = L at *
    go_enter Try.func145, Try.ntmps145
    go_wp2_with fail
    refine (HAR.out _).mono ?_
    rintro r w1 ⟨rfl, rfl⟩
    go_wp2
    go_ret
    exact ⟨by rw [HR.out]; rfl, HB.out⟩
  have d2 : ((e.args.length : Int) != arityE e.kind) = false := by simpa using h2
  by_cases k1 : e.kind = 1
  · have e1 : (e.kind == 1) = true := by rw [k1]; rfl
    by_cases hn : -9999999 ≤ e.n ∧ e.n ≤ 9999999
    · have HR : Hid (partP z e = 0) := Lib.hid (by unfold partP; rw [if_neg h1, if_neg h2, if_pos k1, if_pos hn])
      obtain ⟨hn1, hn2⟩ := hn
      have dn : decide (e.n < -9999999) = false := decide_eq_false (by omega)
      have dm : decide (e.n > 9999999) = false := decide_eq_false (by omega)
      clear h1 h2 HZ hz k1 hn1 hn2
      generalize partP z e = T at *
      generalize arityE e.kind = ar at *
      generalize e.kind = k at *
      generalize e.n = n at *
      generalize e.args.length = L at *
      go_enter Try.func145, Try.ntmps145
      go_wp2_with fail
      refine (HAR.out _).mono ?_
      rintro r w1 ⟨rfl, rfl⟩
      go_wp2
      go_ret
      exact ⟨by rw [HR.out]; rfl, HB.out⟩
    have HR : Hid (partP z e = 3) := Lib.hid (by unfold partP; rw [if_neg h1, if_neg h2, if_pos k1, if_neg hn])
    by_cases hn1 : e.n < -9999999
    · have dn : decide (e.n < -9999999) = true := decide_eq_true hn1
      clear h1 h2 HZ hz k1 hn
      generalize partP z e = T at *
      generalize arityE e.kind = ar at *
      generalize e.kind = k at *
      generalize e.n = n at *
      generalize e.args.length = L at *
      go_enter Try.func145, Try.ntmps145
      go_wp2_with fail
      refine (HAR.out _).mono ?_
      rintro r w1 ⟨rfl, rfl⟩
      go_wp2
      go_ret
      exact ⟨by rw [HR.out]; rfl, HB.out⟩
    · have dn : decide (e.n < -9999999) = false := decide_eq_false hn1
      have dm : decide (e.n > 9999999) = true := decide_eq_true (by omega)
      clear h1 h2 HZ hz k1 hn hn1
      generalize partP z e = T at *
      generalize arityE e.kind = ar at *
      generalize e.kind = k at *
      generalize e.n = n at *
      generalize e.args.length = L at *
      go_enter Try.func145, Try.ntmps145
      go_wp2_with fail
      refine (HAR.out _).mono ?_
      rintro r w1 ⟨rfl, rfl⟩
      go_wp2
      go_ret
      exact ⟨by rw [HR.out]; rfl, HB.out⟩
  have e1 : (e.kind == 1) = false := by simpa using k1
  by_cases k3 : e.kind ≤ 3
  · have hk0 : 1 ≤ e.kind := by
      unfold arityE at h1
      split at h1 <;> omega
    by_cases hn : 0 ≤ e.n ∧ e.n < z.length
    · obtain ⟨x, hx⟩ : ∃ x, z[e.n.toNat]? = some x := ⟨_, List.getElem?_eq_getElem (by omega)⟩
      have hx0 := hz x (List.mem_of_getElem? hx)
      have hgx : z.getD e.n.toNat 0 = x := by rw [List.getD_eq_getElem?_getD, hx]; rfl
      obtain ⟨b, o, rfl, hA⟩ := HZ.out (by omega)
      have cx := HB.out.cell (intR.cell hA hx)
      have HR0 : Hid (partP z e = if e.kind = 2 ∧ 0 < x ∨ e.kind = 3 ∧ x = 0 then 7 else 0) := Lib.hid (by unfold partP; rw [if_neg h1, if_neg h2, if_neg k1, if_pos k3, if_pos hn, hgx])
      obtain ⟨hn0, hn1⟩ := hn
      have dn : decide (e.n < 0) = false := decide_eq_false (by omega)
      have dm : decide (e.n ≥ (z.length : Int)) = false := decide_eq_false (by omega)
      clear hA hx hgx hz HZ h1 h2
      by_cases k2 : e.kind = 2
      · have e2 : (e.kind == 2) = true := by rw [k2]; rfl
        have e3 : (e.kind == 3) = false := by rw [k2]; rfl
        by_cases hx1 : 0 < x
        · have HR : Hid (partP z e = 7) := Lib.hid (by rw [HR0.out, if_pos (by omega)])
          have dx : decide (x > 0) = true := decide_eq_true hx1
          clear k1 k2 k3 hk0 HR0 hx0 hx1
          generalize partP z e = T at *
          generalize arityE e.kind = ar at *
          generalize e.kind = k at *
          generalize e.n = n at *
          generalize e.args.length = L at *
          go_enter Try.func145, Try.ntmps145
          go_wp2_with fail
          refine (HAR.out _).mono ?_
          rintro r w1 ⟨rfl, rfl⟩
          go_wp2
          go_quiet (fail)
          go_wp2
          go_ret
          exact ⟨by rw [HR.out]; rfl, HB.out.drN _⟩
        · have HR : Hid (partP z e = 0) := Lib.hid (by rw [HR0.out, if_neg (by omega)])
          have dx : decide (x > 0) = false := decide_eq_false hx1
          clear k1 k2 k3 hk0 HR0 hx0 hx1
          generalize partP z e = T at *
          generalize arityE e.kind = ar at *
          generalize e.kind = k at *
          generalize e.n = n at *
          generalize e.args.length = L at *
          go_enter Try.func145, Try.ntmps145
          go_wp2_with fail
          refine (HAR.out _).mono ?_
          rintro r w1 ⟨rfl, rfl⟩
          go_wp2
          go_quiet (fail)
          go_wp2
          go_ret
          exact ⟨by rw [HR.out]; rfl, HB.out.drN _⟩
      · have e2 : (e.kind == 2) = false := by simpa using k2
        have e3 : (e.kind == 3) = true := by rw [show e.kind = 3 by omega]; rfl
        by_cases hx1 : 0 < x
        · have HR : Hid (partP z e = 0) := Lib.hid (by rw [HR0.out, if_neg (by omega)])
          have dx : decide (x > 0) = true := decide_eq_true hx1
          clear k1 k2 k3 hk0 HR0 hx0 hx1
          generalize partP z e = T at *
          generalize arityE e.kind = ar at *
          generalize e.kind = k at *
          generalize e.n = n at *
          generalize e.args.length = L at *
          go_enter Try.func145, Try.ntmps145
          go_wp2_with fail
          refine (HAR.out _).mono ?_
          rintro r w1 ⟨rfl, rfl⟩
          go_wp2
          go_quiet (fail)
          go_wp2
          go_ret
          exact ⟨by rw [HR.out]; rfl, HB.out.drN _⟩
        · have HR : Hid (partP z e = 7) := Lib.hid (by rw [HR0.out, if_pos (by omega)])
          have dx : decide (x > 0) = false := decide_eq_false hx1
          clear k1 k2 k3 hk0 HR0 hx0 hx1
          generalize partP z e = T at *
          generalize arityE e.kind = ar at *
          generalize e.kind = k at *
          generalize e.n = n at *
          generalize e.args.length = L at *
          go_enter Try.func145, Try.ntmps145
          go_wp2_with fail
          refine (HAR.out _).mono ?_
          rintro r w1 ⟨rfl, rfl⟩
          go_wp2
          go_quiet (fail)
          go_wp2
          go_ret
          exact ⟨by rw [HR.out]; rfl, HB.out.drN _⟩
    · have HR : Hid (partP z e = 5) := Lib.hid (by unfold partP; rw [if_neg h1, if_neg h2, if_neg k1, if_pos k3, if_neg hn])
      clear HZ hz h1 h2
      by_cases k2 : e.kind = 2
      · have e2 : (e.kind == 2) = true := by rw [k2]; rfl
        by_cases hn0 : e.n < 0
        · have dn : decide (e.n < 0) = true := decide_eq_true hn0
          clear k1 k2 k3 hk0 hn hn0
          generalize partP z e = T at *
          generalize arityE e.kind = ar at *
          generalize e.kind = k at *
          generalize e.n = n at *
          generalize e.args.length = L at *
          go_enter Try.func145, Try.ntmps145
          go_wp2_with fail
          refine (HAR.out _).mono ?_
          rintro r w1 ⟨rfl, rfl⟩
          go_wp2
          go_ret
          exact ⟨by rw [HR.out]; rfl, HB.out⟩
        · have dn : decide (e.n < 0) = false := decide_eq_false hn0
          have dm : decide (e.n ≥ (z.length : Int)) = true := decide_eq_true (by omega)
          clear k1 k2 k3 hk0 hn hn0
          generalize partP z e = T at *
          generalize arityE e.kind = ar at *
          generalize e.kind = k at *
          generalize e.n = n at *
          generalize e.args.length = L at *
          go_enter Try.func145, Try.ntmps145
          go_wp2_with fail
          refine (HAR.out _).mono ?_
          rintro r w1 ⟨rfl, rfl⟩
          go_wp2
          go_ret
          exact ⟨by rw [HR.out]; rfl, HB.out⟩
      · have e2 : (e.kind == 2) = false := by simpa using k2
        have e3 : (e.kind == 3) = true := by rw [show e.kind = 3 by omega]; rfl
        by_cases hn0 : e.n < 0
        · have dn : decide (e.n < 0) = true := decide_eq_true hn0
          clear k1 k2 k3 hk0 hn hn0
          generalize partP z e = T at *
          generalize arityE e.kind = ar at *
          generalize e.kind = k at *
          generalize e.n = n at *
          generalize e.args.length = L at *
          go_enter Try.func145, Try.ntmps145
          go_wp2_with fail
          refine (HAR.out _).mono ?_
          rintro r w1 ⟨rfl, rfl⟩
          go_wp2
          go_ret
          exact ⟨by rw [HR.out]; rfl, HB.out⟩
        · have dn : decide (e.n < 0) = false := decide_eq_false hn0
          have dm : decide (e.n ≥ (z.length : Int)) = true := decide_eq_true (by omega)
          clear k1 k2 k3 hk0 hn hn0
          generalize partP z e = T at *
          generalize arityE e.kind = ar at *
          generalize e.kind = k at *
          generalize e.n = n at *
          generalize e.args.length = L at *
          go_enter Try.func145, Try.ntmps145
          go_wp2_with fail
          refine (HAR.out _).mono ?_
          rintro r w1 ⟨rfl, rfl⟩
          go_wp2
          go_ret
          exact ⟨by rw [HR.out]; rfl, HB.out⟩
  · have e2 : (e.kind == 2) = false := by simp; omega
    have e3 : (e.kind == 3) = false := by simp; omega
    by_cases hn : e.n = 0
    · have HR : Hid (partP z e = 0) := Lib.hid (by unfold partP; rw [if_neg h1, if_neg h2, if_neg k1, if_neg k3, if_neg (by omega)])
      have dn : (e.n != 0) = false := by rw [hn]; rfl
      clear HZ hz h1 h2 k1 k3 hn
      generalize partP z e = T at *
      generalize arityE e.kind = ar at *
      generalize e.kind = k at *
      generalize e.n = n at *
      generalize e.args.length = L at *
      go_enter Try.func145, Try.ntmps145
      go_wp2_with fail
      refine (HAR.out _).mono ?_
      rintro r w1 ⟨rfl, rfl⟩
      go_wp2
      go_ret
      exact ⟨by rw [HR.out]; rfl, HB.out⟩
    · have HR : Hid (partP z e = 3) := Lib.hid (by unfold partP; rw [if_neg h1, if_neg h2, if_neg k1, if_neg k3, if_pos hn])
      have dn : (e.n != 0) = true := by simpa using hn
      clear HZ hz h1 h2 k1 k3 hn
      generalize partP z e = T at *
      generalize arityE e.kind = ar at *
      generalize e.kind = k at *
      generalize e.n = n at *
      generalize e.args.length = L at *
      go_enter Try.func145, Try.ntmps145
      go_wp2_with fail
      refine (HAR.out _).mono ?_
      rintro r w1 ⟨rfl, rfl⟩
      go_wp2
      go_ret
      exact ⟨by rw [HR.out]; rfl, HB.out⟩
theorem partsP_drop {z : List Int} {args : List PE} {k : Nat} {x : PE} (hx : args[k]? = some x) : partsP z (args.drop k) = orE (x.parts z) (partsP z (args.drop (k + 1))) := by
  obtain ⟨hl, rfl⟩ := List.getElem?_eq_some_iff.1 hx
  rw [List.drop_eq_getElem_cons hl, partsP]
theorem partsP_end {z : List Int} {args : List PE} {k : Nat} (h : args.length ≤ k) : partsP z (args.drop k) = 0 := by rw [List.drop_eq_nil_of_le h, partsP]
set_option maxRecDepth 20000 in
set_option maxHeartbeats 1000000 in
theorem parts_step (z : List Int) (hz : ∀ n ∈ z, 0 ≤ n) (k n : Int) (args : List PE) (IH : ∀ x ∈ args, ∀ (val zv : Value) (W : World), PEV W x val → Sl intR W zv z →
      Calls Try.prog 111 #[val, zv] W fun r w' => r = .returned (.int .i64 (x.parts z)) ∧ Bel W w')
    (val zv : Value) (w : World) (h : PEV w (.mk k n args) val) (hs : Sl intR w zv z) :
    Calls Try.prog 111 #[val, zv] w fun r w' => r = .returned (.int .i64 ((PE.mk k n args).parts z)) ∧ Bel w w' := by
  have HP := Lib.hid (fun W (hb : Bel w W) => part_any z hz (.mk k n args) val zv W (h.keep hb) (hs.keep hb))
  have HS := Lib.hid hs
  obtain ⟨v, rfl, A, c, rfl, hc, hm, hA⟩ := h
  have HI := Lib.hid IH
  have HA := Lib.hid hA
  have HT : Hid (orE (partP z (.mk k n args)) (partsP z args) = (PE.mk k n args).parts z) := Lib.hid (by rw [PE.parts])
  generalize (PE.mk k n args).parts z = T at HT ⊢
  have hlm : args.length ≤ 9223372036854775807 := by have := hm.1; simp only [maxLen] at this; simp only [PE.args] at hc; omega
  simp only [PE.kind, PE.n, PE.args] at HA hc ⊢
  clear hm IH hA hs
  have HB := Lib.hid ((Bel.rfl_ w).al (.cells #[.int .i64 k, .int .i64 n, .slice A args.length c] 47))
  have z2 : (w.alloc (.cells #[.int .i64 k, .int .i64 n, .slice A args.length c] 47)).cell? ⟨w.heap.size, 2, none⟩ = some (.slice A args.length c) := (Blk.new w 47 #[.int .i64 k, .int .i64 n, .slice A args.length c]).cell rfl
  go_enter Try.func111, Try.ntmps111
  go_wp2_with fail
  refine (HP.out _ HB.out).mono ?_
  rintro r w1 ⟨rfl, hb⟩
  have z3 := hb.cell z2
  replace HB := Lib.hid (HB.out.tr hb)
  clear hb z2 HP
  generalize partP z (.mk k n args) = P0 at *
  by_cases h0 : P0 ≠ 0
  · have d0 : (P0 != 0) = true := by simpa using h0
    have HR : Hid (P0 = T) := Lib.hid (by rw [← HT.out, orE, if_neg h0])
    clear h0
    go_wp2
    go_ret
    exact ⟨by rw [HR.out]; rfl, HB.out⟩
  have h00 : P0 = 0 := by omega
  subst h00
  replace HT : Hid (partsP z (args.drop 0) = T) := Lib.hid (by rw [← HT.out]; unfold orE; rw [if_pos rfl]; rfl)
  clear h0
  go_wp2
  go_loopw [18] (fun i wr => ∃ j : Nat, i = .int .i64 j ∧ j ≤ args.length ∧ Hid (partsP z (args.drop j) = T) ∧ Hid (Bel w wr)) (fun i _ => args.length - (intOf i).toNat)
  case atStart => exact ⟨0, rfl, by omega, HT, HB⟩
  case round =>
    obtain ⟨j, rfl, hj, HJ, HW⟩ := hrel
    clear HT HB z3
    by_cases hlt : j < args.length
    · obtain ⟨q, hq⟩ : ∃ e, args[j]? = some e := ⟨_, List.getElem?_eq_getElem hlt⟩
      obtain ⟨b, o, rfl, hA⟩ := HA.out (by omega)
      obtain ⟨B, mm, cc, hs, y0, y1, y2⟩ := peR.cells hA hq
      have y0 := HW.out.cell y0
      have y1 := HW.out.cell y1
      have y2 := HW.out.cell y2
      have HQ := Lib.hid hq; have HSL := Lib.hid (hs.keep HW.out); clear hq hs hA HA
      have HQV : Hid (∀ W, Bel wr W → PEV W q (.agg #[.int .i64 q.kind, .int .i64 q.n, .slice B mm cc])) := Lib.hid fun W hb => ⟨_, rfl, HSL.out.keep hb⟩
      replace HJ : Hid (orE (q.parts z) (partsP z (args.drop (j + 1))) = T) := Lib.hid (by rw [← partsP_drop HQ.out]; exact HJ.out)
      have HC := Lib.hid (fun W (hb : Bel wr W) => HI.out q (List.mem_of_getElem? HQ.out) _ zv W (HQV.out _ hb) (HS.out.keep (HW.out.tr hb)))
      generalize q.kind = qk at *
      generalize q.n = qn at *
      generalize q.parts z = X at *
      go_wp2_with fail
      refine (HC.out _ ((Bel.rfl_ _).al _)).mono ?_
      rintro e w' ⟨rfl, hb⟩
      have HB' := Lib.hid (HW.out.tr (Bel.tr ((Bel.rfl_ wr).al _) hb)); clear hb
      by_cases hx : X = 0
      · subst hx
        replace HJ : Hid (partsP z (args.drop (j + 1)) = T) := Lib.hid (by rw [← HJ.out]; unfold orE; rw [if_pos rfl])
        go_wp2
        go_roundw
        case rel => exact ⟨j + 1, by go_num, by omega, HJ, HB'⟩
        case measure => simp [intOf]; omega
      · have d0 : (X != 0) = true := by simpa using hx
        replace HJ : Hid (X = T) := Lib.hid (by rw [← HJ.out]; unfold orE; rw [if_neg hx])
        clear hx
        go_wp2
        go_ret
        exact ⟨by rw [HJ.out]; rfl, HB'.out⟩
    · replace HJ : Hid (0 = T) := Lib.hid (by rw [← HJ.out, partsP_end (by omega)])
      go_wp2
      go_ret
      exact ⟨by rw [← HJ.out]; rfl, HW.out⟩
theorem parts_any (z : List Int) (hz : ∀ n ∈ z, 0 ≤ n) : ∀ (e : PE) (val zv : Value) (w : World), PEV w e val → Sl intR w zv z →
    Calls Try.prog 111 #[val, zv] w fun r w' => r = .returned (.int .i64 (e.parts z)) ∧ Bel w w' :=
  PE.ind fun k n args ih val zv w h hs => parts_step z hz k n args ih val zv w h hs
set_option maxRecDepth 20000 in
theorem expr_any (z : List Int) (hz : ∀ n ∈ z, 0 ≤ n) (e : PE) (val zv : Value) (w : World) (h : PEV w e val) (hs : Sl intR w zv z) :
    Calls Try.prog 66 #[val, zv] w fun r w' => r = .returned (.int .i64 (e.err z)) ∧ Bel w w' := by
  have HS := Lib.hid (fun W (hb : Bel w W) => sizeP_any e 15 val W (by decide) (by decide) (h.keep hb))
  have HP := Lib.hid (fun W (hb : Bel w W) => parts_any z hz e val zv W (h.keep hb) (hs.keep hb))
  obtain ⟨v, rfl, A, c, rfl, -⟩ := h
  have HG : Hid (e.err z = if 15 < e.size 15 then 2 else e.parts z) := Lib.hid rfl
  have hle := PE.size_le e 15 (by decide)
  generalize e.err z = T at *
  generalize e.parts z = X at *
  generalize e.size 15 = y at *
  generalize e.kind = k at *
  generalize e.n = n at *
  have HB := Lib.hid ((Bel.rfl_ w).al (.cells #[.int .i64 k, .int .i64 n, .slice A e.args.length c] 47))
  have z0 : ∀ i u, (#[Value.int .i64 k, .int .i64 n, .slice A e.args.length c] : Array Value)[i]? = some u → (w.alloc (.cells #[.int .i64 k, .int .i64 n, .slice A e.args.length c] 47)).cell? ⟨w.heap.size, i, none⟩ = some u := fun i u hu => (Blk.new w _ _).cell hu
  go_enter Try.func66, Try.ntmps66
  go_wp2_with fail
  refine (HS.out _ HB.out).mono ?_
  rintro r w1 ⟨rfl, hb⟩
  have q0 := hb.cell (z0 0 _ rfl)
  have q1 := hb.cell (z0 1 _ rfl)
  have q2 := hb.cell (z0 2 _ rfl)
  replace HB := Lib.hid (HB.out.tr hb)
  clear hb z0
  by_cases hy : 15 < y
  · have HR : Hid (T = 2) := Lib.hid (by rw [HG.out, if_pos hy])
    have d0 : decide (y > 15) = true := decide_eq_true hy
    go_wp2
    go_ret
    exact ⟨by rw [HR.out]; rfl, HB.out⟩
  · have HR : Hid (T = X) := Lib.hid (by rw [HG.out, if_neg hy])
    have d0 : decide (y > 15) = false := decide_eq_false hy
    go_wp2_with fail
    refine (HP.out _ HB.out).mono ?_
    rintro r w2 ⟨rfl, hb⟩
    replace HB := Lib.hid (HB.out.tr hb)
    clear hb
    go_wp2
    go_ret
    exact ⟨by rw [HR.out]; rfl, HB.out⟩
end Go.Proofs.Ytgkpplbomciehaa
