/- Expressions, commands and functions of programs, copied: laws. One part of an expression of a program, by the program: walked. Each lemma states its own conditions. -/
import Derived.Test.YtgkpplbomciehaaSca09
import Derived.Test.YtgkpplbomciehaaSca07
namespace Go.Proofs.Ytgkpplbomciehaa
open Go.RowKit
theorem elPE : Elem Try.prog 45 47 3 40 := Elem.mk_ (z := .agg #[.int .i64 0, .int .i64 0, .slice none 0 0]) (by kernel_rfl) (by kernel_rfl) rfl (by decide)
theorem elPC : Elem Try.prog 76 120 12 176 := Elem.mk_ (z := .agg #[.int .i64 0, .int .i64 0, .int .i64 0, .int .i64 0, .int .i64 0, .slice none 0 0, .int .i64 0, .int .i64 0, .slice none 0 0, .slice none 0 0, .slice none 0 0, .slice none 0 0]) (by kernel_rfl) (by kernel_rfl) rfl (by decide)
theorem elPF : Elem Try.prog 38 78 6 96 := Elem.mk_ (z := .agg #[.int .i64 0, .slice none 0 0, .slice none 0 0, .int .i64 0, .int .i64 0, .slice none 0 0]) (by kernel_rfl) (by kernel_rfl) rfl (by decide)
theorem elEV : Elem Try.prog 27 63 6 48 := Elem.mk_ (z := .agg #[.int .i64 0, .int .i64 0, .int .i64 0, .int .i64 0, .int .i64 0, .int .i64 0]) (by kernel_rfl) (by kernel_rfl) rfl (by decide)
theorem elI : Elem Try.prog 23 3 1 8 := Elem.mk_ (z := .int .i64 0) (by kernel_rfl) (by kernel_rfl) rfl (by decide)
theorem elII : Elem Try.prog 24 23 1 24 := Elem.mk_ (z := .slice none 0 0) (by kernel_rfl) (by kernel_rfl) rfl (by decide)
theorem undPE : ∃ d, Try.prog.underlying 47 = some d ∧ d.isRow = true := und_of (by kernel_rfl)
theorem undPC : ∃ d, Try.prog.underlying 120 = some d ∧ d.isRow = true := und_of (by kernel_rfl)
theorem undPF : ∃ d, Try.prog.underlying 78 = some d ∧ d.isRow = true := und_of (by kernel_rfl)
theorem peR_one {W : World} {cs : List Value} {x : PE} (h : peR.R W cs x) : ∀ u ∈ cs, u.oneCell' = true := by
  obtain ⟨k, n, args⟩ := x
  obtain ⟨v, rfl, h1⟩ := PER.opened h
  obtain ⟨_, _, rfl, -⟩ := h1
  simp [Value.oneCell']
theorem pcR_one {W : World} {cs : List Value} {x : PC} (h : pcR.R W cs x) : ∀ u ∈ cs, u.oneCell' = true := by
  obtain ⟨k, u, g, i, e, args, thn, els⟩ := x
  obtain ⟨vi, ve, va, vt, vs, rfl, h1, h2, h3, h4, h5⟩ := PCR.opened h
  obtain ⟨_, _, rfl, -⟩ := h1
  obtain ⟨_, _, rfl, -⟩ := h2
  obtain ⟨_, _, rfl, -⟩ := h3
  obtain ⟨_, _, rfl, -⟩ := h4
  obtain ⟨_, _, rfl, -⟩ := h5
  simp [Value.oneCell']
theorem pfR_one {W : World} {cs : List Value} {x : PF} (h : pfR.R W cs x) : ∀ u ∈ cs, u.oneCell' = true := by
  obtain ⟨vz, vc, vr, rfl, h1, h2, h3⟩ := h
  obtain ⟨_, _, rfl, -⟩ := h1
  obtain ⟨_, _, rfl, -⟩ := h2
  obtain ⟨_, _, rfl, -⟩ := h3
  simp [Value.oneCell']
section
variable {ops : Array Oper} {rest : List Oper} {o1 o2 o3 : Oper} {a : Act} {w : World} {Q : Exit → Act → World → Prop}
/-- an expression copied -/
theorem copyPE (x y z : Operand) (hg1 : o1.guard = none) (hg2 : o2.guard = none) (hg3 : o3.guard = none)
    (ho1 : o1.op = .load 47 x) (ho2 : o2.op = .alloc 47) (ho3 : o3.op = .store 47 y z) (b o : Nat) (hx : a.eval x = .pointer (some ⟨b, o, none⟩)) (cs : List Value) (hc : CellsAt w b o cs) {W : World} {c : PE} (hr : PER W c cs)
    (hy : ((a.put o1.dst (.agg cs.toArray)).put o2.dst (.pointer (some ⟨w.heap.size, 0, none⟩))).eval y = .pointer (some ⟨w.heap.size, 0, none⟩))
    (hz : ((a.put o1.dst (.agg cs.toArray)).put o2.dst (.pointer (some ⟨w.heap.size, 0, none⟩))).eval z = .agg cs.toArray)
    (h : wpList Try.prog ops Q rest (((a.put o1.dst (.agg cs.toArray)).put o2.dst (.pointer (some ⟨w.heap.size, 0, none⟩))).put o3.dst undef) (w.alloc (.cells cs.toArray 47))) : wpList Try.prog ops Q (o1 :: o2 :: o3 :: rest) a w := by
  obtain ⟨d, hu, hd⟩ := undPE
  exact wpList_copy _ x y z hg1 hg2 hg3 ho1 ho2 ho3 b o hx cs hc elPE d hu hd (peR.len hr) (peR_one hr) hy hz h
/-- a command copied -/
theorem copyPC (x y z : Operand) (hg1 : o1.guard = none) (hg2 : o2.guard = none) (hg3 : o3.guard = none)
    (ho1 : o1.op = .load 120 x) (ho2 : o2.op = .alloc 120) (ho3 : o3.op = .store 120 y z) (b o : Nat) (hx : a.eval x = .pointer (some ⟨b, o, none⟩)) (cs : List Value) (hc : CellsAt w b o cs) {W : World} {c : PC} (hr : PCR W c cs)
    (hy : ((a.put o1.dst (.agg cs.toArray)).put o2.dst (.pointer (some ⟨w.heap.size, 0, none⟩))).eval y = .pointer (some ⟨w.heap.size, 0, none⟩))
    (hz : ((a.put o1.dst (.agg cs.toArray)).put o2.dst (.pointer (some ⟨w.heap.size, 0, none⟩))).eval z = .agg cs.toArray)
    (h : wpList Try.prog ops Q rest (((a.put o1.dst (.agg cs.toArray)).put o2.dst (.pointer (some ⟨w.heap.size, 0, none⟩))).put o3.dst undef) (w.alloc (.cells cs.toArray 120))) : wpList Try.prog ops Q (o1 :: o2 :: o3 :: rest) a w := by
  obtain ⟨d, hu, hd⟩ := undPC
  exact wpList_copy _ x y z hg1 hg2 hg3 ho1 ho2 ho3 b o hx cs hc elPC d hu hd (pcR.len hr) (pcR_one hr) hy hz h
/-- a function copied -/
theorem copyPF (x y z : Operand) (hg1 : o1.guard = none) (hg2 : o2.guard = none) (hg3 : o3.guard = none)
    (ho1 : o1.op = .load 78 x) (ho2 : o2.op = .alloc 78) (ho3 : o3.op = .store 78 y z) (b o : Nat) (hx : a.eval x = .pointer (some ⟨b, o, none⟩)) (cs : List Value) (hc : CellsAt w b o cs) {W : World} {c : PF} (hr : PFR W c cs)
    (hy : ((a.put o1.dst (.agg cs.toArray)).put o2.dst (.pointer (some ⟨w.heap.size, 0, none⟩))).eval y = .pointer (some ⟨w.heap.size, 0, none⟩))
    (hz : ((a.put o1.dst (.agg cs.toArray)).put o2.dst (.pointer (some ⟨w.heap.size, 0, none⟩))).eval z = .agg cs.toArray)
    (h : wpList Try.prog ops Q rest (((a.put o1.dst (.agg cs.toArray)).put o2.dst (.pointer (some ⟨w.heap.size, 0, none⟩))).put o3.dst undef) (w.alloc (.cells cs.toArray 78))) : wpList Try.prog ops Q (o1 :: o2 :: o3 :: rest) a w := by
  obtain ⟨d, hu, hd⟩ := undPF
  exact wpList_copy _ x y z hg1 hg2 hg3 ho1 ho2 ho3 b o hx cs hc elPF d hu hd (pfR.len hr) (pfR_one hr) hy hz h
end
/-- where an element lies -/
theorem Sl.elem {α : Type} {r : Rep α} {w : World} {A : Option Addr} {n c : Nat} {xs : List α} (h : Sl r w (.slice A n c) xs) {k : Nat} {x : α} (hk : xs[k]? = some x) : ∃ b o cs, A = some ⟨b, o, none⟩ ∧ r.R w cs x ∧ CellsAt w b (o + k * r.size) cs := by
  obtain ⟨b, o, rfl, h5⟩ := h.lies (by have := (List.getElem?_eq_some_iff.1 hk).1; omega)
  obtain ⟨cs, h6, h7⟩ := h5 k x hk
  exact ⟨b, o, cs, rfl, h6, h7⟩
/-- the cells of an expression, of a command -/
theorem peCells {w : World} {x : PE} {cs : List Value} (h : PER w x cs) : ∃ v, cs = [.int .i64 x.kind, .int .i64 x.n, v] ∧ Sl peR w v x.args := by
  obtain ⟨k, n, args⟩ := x
  exact PER.opened h
theorem pcCells {w : World} {x : PC} {cs : List Value} (h : PCR w x cs) : ∃ vi ve va vt vs, cs = [.int .i64 x.kind, .int .i64 x.var, .int .i64 x.fn, .int .i64 x.index.kind, .int .i64 x.index.n, vi, .int .i64 x.expr.kind, .int .i64 x.expr.n, ve, va, vt, vs] ∧
    Sl peR w vi x.index.args ∧ Sl peR w ve x.expr.args ∧ Sl peR w va x.args ∧ Sl pcR w vt x.thn ∧ Sl pcR w vs x.els := by
  obtain ⟨k, u, g, i, e, args, thn, els⟩ := x
  exact PCR.opened h
theorem args_any (k : Int) (w : World) : Calls Try.prog 157 #[.int .i64 k] w fun r w' => r = .returned (.int .i64 (arityE k)) ∧ w = w' := by
  by_cases h1 : k < 1
  · have e : Hid (arityE k = -1) := Lib.hid (by unfold arityE; rw [if_pos (Or.inl h1)])
    go_enter Try.func157, Try.ntmps157
    go_wp2
    go_ret
    exact ⟨by rw [e.out]; rfl, rfl⟩
  by_cases h2 : 10 < k
  · have e : Hid (arityE k = -1) := Lib.hid (by unfold arityE; rw [if_pos (Or.inr h2)])
    go_enter Try.func157, Try.ntmps157
    go_wp2
    go_ret
    exact ⟨by rw [e.out]; rfl, rfl⟩
  by_cases h3 : k ≤ 2
  · have e : Hid (arityE k = 0) := Lib.hid (by unfold arityE; rw [if_neg (by omega), if_pos h3])
    go_enter Try.func157, Try.ntmps157
    go_wp2
    go_ret
    exact ⟨by rw [e.out]; rfl, rfl⟩
  by_cases h4 : k = 3
  · subst h4
    go_enter Try.func157, Try.ntmps157
    go_wp2
    go_ret
    exact ⟨rfl, rfl⟩
  · have e : Hid (arityE k = 2) := Lib.hid (by unfold arityE; rw [if_neg (by omega), if_neg h3, if_neg h4])
    go_enter Try.func157, Try.ntmps157
    go_wp2
    go_ret
    exact ⟨by rw [e.out]; rfl, rfl⟩
set_option maxRecDepth 20000 in
set_option maxHeartbeats 4000000 in
theorem part_any (z : List Int) (hz : ∀ n ∈ z, 0 ≤ n) (e : PE) (val zv : Value) (w : World) (h : PEV w e val) (hs : Sl intR w zv z) :
    Calls Try.prog 145 #[val, zv] w fun r w' => r = .returned (.int .i64 (partP z e)) ∧ Bel w w' := by
  obtain ⟨v, rfl, A, c, rfl, hc, hm, -⟩ := h
  obtain ⟨Z, cz, rfl, hzc, hzm, hZ⟩ := hs
  have HZ := Lib.hid hZ
  have hlm : e.args.length ≤ 9223372036854775807 := by have := hm.1; simp only [maxLen] at this; omega
  have hlz : z.length ≤ 9223372036854775807 := by have := hzm.1; simp only [maxLen] at this; omega
  have HB : Hid (Bel w (w.alloc (.cells #[.int .i64 e.kind, .int .i64 e.n, .slice A e.args.length c] 47))) := Lib.hid ((Bel.rfl_ w).al _)
  have HAR : Hid (∀ W, Calls Try.prog 157 #[.int .i64 e.kind] W fun r w' => r = .returned (.int .i64 (arityE e.kind)) ∧ W = w') := Lib.hid (args_any _)
  clear hc hm hzc hzm hZ
  by_cases h1 : arityE e.kind < 0
  · have HR : Hid (partP z e = 7) := Lib.hid (by unfold partP; rw [if_pos h1])
    have d1 : decide (arityE e.kind < 0) = true := decide_eq_true h1
    clear h1 HZ hz
    generalize partP z e = T at *
    generalize arityE e.kind = ar at *
    generalize e.kind = k at *
    generalize e.n = n at *
    generalize e.args.length = L at *
    go_enter Try.func145, Try.ntmps145
    go_wp2_with fail
    refine (HAR.out _).mono ?_
    rintro r w1 ⟨rfl, rfl⟩
    go_wp2
    go_ret
    exact ⟨by rw [HR.out]; rfl, HB.out⟩
  have d1 : decide (arityE e.kind < 0) = false := decide_eq_false h1
  by_cases h2 : (e.args.length : Int) ≠ arityE e.kind
  · have HR : Hid (partP z e = 1) := Lib.hid (by unfold partP; rw [if_neg h1, if_pos h2])
    have d2 : ((e.args.length : Int) != arityE e.kind) = true := by simpa using h2
    clear h1 h2 HZ hz
    generalize partP z e = T at *
    generalize arityE e.kind = ar at *
    generalize e.kind = k at *
    generalize e.n = n at *
    generalize e.args.length = L at *
    go_enter Try.func145, Try.ntmps145
    go_wp2_with fail
    refine (HAR.out _).mono ?_
    rintro r w1 ⟨rfl, rfl⟩
    go_wp2
    go_ret
    exact ⟨by rw [HR.out]; rfl, HB.out⟩
  have d2 : ((e.args.length : Int) != arityE e.kind) = false := by simpa using h2
  by_cases k1 : e.kind = 1
  · have e1 : (e.kind == 1) = true := by rw [k1]; rfl
    by_cases hn : -9999999 ≤ e.n ∧ e.n ≤ 9999999
    · have HR : Hid (partP z e = 0) := Lib.hid (by unfold partP; rw [if_neg h1, if_neg h2, if_pos k1, if_pos hn])
      obtain ⟨hn1, hn2⟩ := hn
      have dn : decide (e.n < -9999999) = false := decide_eq_false (by omega)
      have dm : decide (e.n > 9999999) = false := decide_eq_false (by omega)
      clear h1 h2 HZ hz k1 hn1 hn2
      generalize partP z e = T at *
      generalize arityE e.kind = ar at *
      generalize e.kind = k at *
      generalize e.n = n at *
      generalize e.args.length = L at *
      go_enter Try.func145, Try.ntmps145
      go_wp2_with fail
      refine (HAR.out _).mono ?_
      rintro r w1 ⟨rfl, rfl⟩
      go_wp2
      go_ret
      exact ⟨by rw [HR.out]; rfl, HB.out⟩
    have HR : Hid (partP z e = 3) := Lib.hid (by unfold partP; rw [if_neg h1, if_neg h2, if_pos k1, if_neg hn])
    by_cases hn1 : e.n < -9999999
    · have dn : decide (e.n < -9999999) = true := decide_eq_true hn1
      clear h1 h2 HZ hz k1 hn
      generalize partP z e = T at *
      generalize arityE e.kind = ar at *
      generalize e.kind = k at *
      generalize e.n = n at *
      generalize e.args.length = L at *
      go_enter Try.func145, Try.ntmps145
      go_wp2_with fail
      refine (HAR.out _).mono ?_
      rintro r w1 ⟨rfl, rfl⟩
      go_wp2
      go_ret
      exact ⟨by rw [HR.out]; rfl, HB.out⟩
    · have dn : decide (e.n < -9999999) = false := decide_eq_false hn1
      have dm : decide (e.n > 9999999) = true := decide_eq_true (by omega)
      clear h1 h2 HZ hz k1 hn hn1
      generalize partP z e = T at *
      generalize arityE e.kind = ar at *
      generalize e.kind = k at *
      generalize e.n = n at *
      generalize e.args.length = L at *
      go_enter Try.func145, Try.ntmps145
      go_wp2_with fail
      refine (HAR.out _).mono ?_
      rintro r w1 ⟨rfl, rfl⟩
      go_wp2
      go_ret
      exact ⟨by rw [HR.out]; rfl, HB.out⟩
  have e1 : (e.kind == 1) = false := by simpa using k1
  by_cases k3 : e.kind ≤ 3
  · have hk0 : 1 ≤ e.kind := by
      unfold arityE at h1
      split at h1 <;> omega
    by_cases hn : 0 ≤ e.n ∧ e.n < z.length
    · obtain ⟨x, hx⟩ : ∃ x, z[e.n.toNat]? = some x := ⟨_, List.getElem?_eq_getElem (by omega)⟩
      have hx0 := hz x (List.mem_of_getElem? hx)
      have hgx : z.getD e.n.toNat 0 = x := by rw [List.getD_eq_getElem?_getD, hx]; rfl
      obtain ⟨b, o, rfl, hA⟩ := HZ.out (by omega)
      have cx := HB.out.cell (intR.cell hA hx)
      have HR0 : Hid (partP z e = if e.kind = 2 ∧ 0 < x ∨ e.kind = 3 ∧ x = 0 then 7 else 0) := Lib.hid (by unfold partP; rw [if_neg h1, if_neg h2, if_neg k1, if_pos k3, if_pos hn, hgx])
      obtain ⟨hn0, hn1⟩ := hn
      have dn : decide (e.n < 0) = false := decide_eq_false (by omega)
      have dm : decide (e.n ≥ (z.length : Int)) = false := decide_eq_false (by omega)
      clear hA hx hgx hz HZ h1 h2
      by_cases k2 : e.kind = 2
      · have e2 : (e.kind == 2) = true := by rw [k2]; rfl
        have e3 : (e.kind == 3) = false := by rw [k2]; rfl
        by_cases hx1 : 0 < x
        · have HR : Hid (partP z e = 7) := Lib.hid (by rw [HR0.out, if_pos (by omega)])
          have dx : decide (x > 0) = true := decide_eq_true hx1
          clear k1 k2 k3 hk0 HR0 hx0 hx1
          generalize partP z e = T at *
          generalize arityE e.kind = ar at *
          generalize e.kind = k at *
          generalize e.n = n at *
          generalize e.args.length = L at *
          go_enter Try.func145, Try.ntmps145
          go_wp2_with fail
          refine (HAR.out _).mono ?_
          rintro r w1 ⟨rfl, rfl⟩
          go_wp2
          go_quiet (fail)
          go_wp2
          go_ret
          exact ⟨by rw [HR.out]; rfl, HB.out.drN _⟩
        · have HR : Hid (partP z e = 0) := Lib.hid (by rw [HR0.out, if_neg (by omega)])
          have dx : decide (x > 0) = false := decide_eq_false hx1
          clear k1 k2 k3 hk0 HR0 hx0 hx1
          generalize partP z e = T at *
          generalize arityE e.kind = ar at *
          generalize e.kind = k at *
          generalize e.n = n at *
          generalize e.args.length = L at *
          go_enter Try.func145, Try.ntmps145
          go_wp2_with fail
          refine (HAR.out _).mono ?_
          rintro r w1 ⟨rfl, rfl⟩
          go_wp2
          go_quiet (fail)
          go_wp2
          go_ret
          exact ⟨by rw [HR.out]; rfl, HB.out.drN _⟩
      · have e2 : (e.kind == 2) = false := by simpa using k2
        have e3 : (e.kind == 3) = true := by rw [show e.kind = 3 by omega]; rfl
        by_cases hx1 : 0 < x
        · have HR : Hid (partP z e = 0) := Lib.hid (by rw [HR0.out, if_neg (by omega)])
          have dx : decide (x > 0) = true := decide_eq_true hx1
          clear k1 k2 k3 hk0 HR0 hx0 hx1
          generalize partP z e = T at *
          generalize arityE e.kind = ar at *
          generalize e.kind = k at *
          generalize e.n = n at *
          generalize e.args.length = L at *
          go_enter Try.func145, Try.ntmps145
          go_wp2_with fail
          refine (HAR.out _).mono ?_
          rintro r w1 ⟨rfl, rfl⟩
          go_wp2
          go_quiet (fail)
          go_wp2
          go_ret
          exact ⟨by rw [HR.out]; rfl, HB.out.drN _⟩
        · have HR : Hid (partP z e = 7) := Lib.hid (by rw [HR0.out, if_pos (by omega)])
          have dx : decide (x > 0) = false := decide_eq_false hx1
          clear k1 k2 k3 hk0 HR0 hx0 hx1
          generalize partP z e = T at *
          generalize arityE e.kind = ar at *
          generalize e.kind = k at *
          generalize e.n = n at *
          generalize e.args.length = L at *
          go_enter Try.func145, Try.ntmps145
          go_wp2_with fail
          refine (HAR.out _).mono ?_
          rintro r w1 ⟨rfl, rfl⟩
          go_wp2
          go_quiet (fail)
          go_wp2
          go_ret
          exact ⟨by rw [HR.out]; rfl, HB.out.drN _⟩
    · have HR : Hid (partP z e = 5) := Lib.hid (by unfold partP; rw [if_neg h1, if_neg h2, if_neg k1, if_pos k3, if_neg hn])
      clear HZ hz h1 h2
      by_cases k2 : e.kind = 2
      · have e2 : (e.kind == 2) = true := by rw [k2]; rfl
        by_cases hn0 : e.n < 0
        · have dn : decide (e.n < 0) = true := decide_eq_true hn0
          clear k1 k2 k3 hk0 hn hn0
          generalize partP z e = T at *
          generalize arityE e.kind = ar at *
          generalize e.kind = k at *
          generalize e.n = n at *
          generalize e.args.length = L at *
          go_enter Try.func145, Try.ntmps145
          go_wp2_with fail
          refine (HAR.out _).mono ?_
          rintro r w1 ⟨rfl, rfl⟩
          go_wp2
          go_ret
          exact ⟨by rw [HR.out]; rfl, HB.out⟩
        · have dn : decide (e.n < 0) = false := decide_eq_false hn0
          have dm : decide (e.n ≥ (z.length : Int)) = true := decide_eq_true (by omega)
          clear k1 k2 k3 hk0 hn hn0
          generalize partP z e = T at *
          generalize arityE e.kind = ar at *
          generalize e.kind = k at *
          generalize e.n = n at *
          generalize e.args.length = L at *
          go_enter Try.func145, Try.ntmps145
          go_wp2_with fail
          refine (HAR.out _).mono ?_
          rintro r w1 ⟨rfl, rfl⟩
          go_wp2
          go_ret
          exact ⟨by rw [HR.out]; rfl, HB.out⟩
      · have e2 : (e.kind == 2) = false := by simpa using k2
        have e3 : (e.kind == 3) = true := by rw [show e.kind = 3 by omega]; rfl
        by_cases hn0 : e.n < 0
        · have dn : decide (e.n < 0) = true := decide_eq_true hn0
          clear k1 k2 k3 hk0 hn hn0
          generalize partP z e = T at *
          generalize arityE e.kind = ar at *
          generalize e.kind = k at *
          generalize e.n = n at *
          generalize e.args.length = L at *
          go_enter Try.func145, Try.ntmps145
          go_wp2_with fail
          refine (HAR.out _).mono ?_
          rintro r w1 ⟨rfl, rfl⟩
          go_wp2
          go_ret
          exact ⟨by rw [HR.out]; rfl, HB.out⟩
        · have dn : decide (e.n < 0) = false := decide_eq_false hn0
          have dm : decide (e.n ≥ (z.length : Int)) = true := decide_eq_true (by omega)
          clear k1 k2 k3 hk0 hn hn0
          generalize partP z e = T at *
          generalize arityE e.kind = ar at *
          generalize e.kind = k at *
          generalize e.n = n at *
          generalize e.args.length = L at *
          go_enter Try.func145, Try.ntmps145
          go_wp2_with fail
          refine (HAR.out _).mono ?_
          rintro r w1 ⟨rfl, rfl⟩
          go_wp2
          go_ret
          exact ⟨by rw [HR.out]; rfl, HB.out⟩
  · have e2 : (e.kind == 2) = false := by simp; omega
    have e3 : (e.kind == 3) = false := by simp; omega
    by_cases hn : e.n = 0
    · have HR : Hid (partP z e = 0) := Lib.hid (by unfold partP; rw [if_neg h1, if_neg h2, if_neg k1, if_neg k3, if_neg (by omega)])
      have dn : (e.n != 0) = false := by rw [hn]; rfl
      clear HZ hz h1 h2 k1 k3 hn
      generalize partP z e = T at *
      generalize arityE e.kind = ar at *
      generalize e.kind = k at *
      generalize e.n = n at *
      generalize e.args.length = L at *
      go_enter Try.func145, Try.ntmps145
      go_wp2_with fail
      refine (HAR.out _).mono ?_
      rintro r w1 ⟨rfl, rfl⟩
      go_wp2
      go_ret
      exact ⟨by rw [HR.out]; rfl, HB.out⟩
    · have HR : Hid (partP z e = 3) := Lib.hid (by unfold partP; rw [if_neg h1, if_neg h2, if_neg k1, if_neg k3, if_pos hn])
      have dn : (e.n != 0) = true := by simpa using hn
      clear HZ hz h1 h2 k1 k3 hn
      generalize partP z e = T at *
      generalize arityE e.kind = ar at *
      generalize e.kind = k at *
      generalize e.n = n at *
      generalize e.args.length = L at *
      go_enter Try.func145, Try.ntmps145
      go_wp2_with fail
      refine (HAR.out _).mono ?_
      rintro r w1 ⟨rfl, rfl⟩
      go_wp2
      go_ret
      exact ⟨by rw [HR.out]; rfl, HB.out⟩
end Go.Proofs.Ytgkpplbomciehaa
