/- A cell of a variable is written by a command: walked. Where a run of commands stands, in memory and in plain words. A list of commands: walked. Each lemma states its own conditions. -/
import Derived.Test.YtgkpplbomciehaaTrr23
namespace Go.Proofs.Ytgkpplbomciehaa
open Go.RowKit
/-- how such a command ends -/
def putHow (vs : List (List Int)) (x : PC) : Int :=
  if (x.index.val vs).2 ≠ 0 then (x.index.val vs).2 else if (x.expr.val vs).2 ≠ 0 then (x.expr.val vs).2
  else if 0 ≤ (x.index.val vs).1 ∧ (x.index.val vs).1 < (vs.getD x.var.toNat []).length then 0 else 3
section
variable {w0 w : World} {ps : List PF} {fuel : Int} {fs : FS} {L r lo fb : Nat} {inp : List Int} {steps made deep num at_ : Int} {out : List Ev} {vs : List (List Int)}
set_option maxRecDepth 20000 in
set_option maxHeartbeats 8000000 in
theorem put_any (hR : RnM w0 ps fuel fs L r w inp steps made deep out) (hl : out.length ≤ 99990) (hF : FrM w lo fb num at_ vs) (hlo : L ≤ lo) {z : List Int} (hf : Fits z vs) {x : PC} {val : Value} (hx : PCV w x val) (hi : x.index.parts z = 0) (he : x.expr.parts z = 0) (hv0 : 0 ≤ x.var) (hv1 : x.var < z.length) :
    Calls Try.prog 161 #[.pointer (some ⟨r, 0, none⟩), .pointer (some ⟨fb, 0, none⟩), val] w fun y w' =>
      (putHow vs x ≠ 0 ∧ y = .returned (.bool false) ∧ RnM w0 ps fuel fs L r w' inp steps made deep (out ++ [⟨7, num, at_, 0, 0, putHow vs x⟩]) ∧ Stays w0.heap.size lo w w') ∨
      (putHow vs x = 0 ∧ y = .returned (.bool true) ∧ RnM w0 ps fuel fs L r w' inp steps made deep (out ++ [⟨2, num, at_, x.var, (x.index.val vs).1, (x.expr.val vs).1⟩]) ∧ FrM w' lo fb num at_ (setC vs x.var (x.index.val vs).1 (x.expr.val vs).1) ∧ Stays w0.heap.size lo w w') := by
  have HFLO := Lib.hid hF.1
  have HLF := Lib.hid (Nat.lt_of_le_of_lt hF.1 (by obtain ⟨-, v, hB, -⟩ := id hF; exact hB.lt))
  obtain ⟨l, hvl⟩ : ∃ l, vs[x.var.toNat]? = some l := ⟨_, List.getElem?_eq_getElem (by have := hf.1; omega)⟩
  have hsz := hR.bel.size
  obtain ⟨cs, hcs, rfl⟩ := hx
  obtain ⟨vi, ve, va, vt, vz, hq, hvi, hve, -⟩ := pcCells hcs
  have HB1 : Hid (Bel w (w.alloc (.cells cs.toArray CMT))) := Lib.hid ((Bel.rfl_ w).al _)
  have HX1 := Lib.hid (Blk.new w CMT cs.toArray)
  have HR1 := Lib.hid (hR.keep HB1.out)
  have HF1 := Lib.hid (hF.keep HB1.out)
  have HK1 := Lib.hid (Stays.bel (lo := lo) HB1.out hsz)
  have HL : Hid (out.length ≤ 100000) := Lib.hid (by omega)
  have HIV : Hid (PEV (w.alloc (.cells cs.toArray CMT)) x.index (.agg #[.int .i64 x.index.kind, .int .i64 x.index.n, vi])) := Lib.hid ⟨vi, rfl, hvi.keep HB1.out⟩
  have HEV : Hid (PEV (w.alloc (.cells cs.toArray CMT)) x.expr (.agg #[.int .i64 x.expr.kind, .int .i64 x.expr.n, ve])) := Lib.hid ⟨ve, rfl, hve.keep HB1.out⟩
  have HWV := Lib.hid (fun (W : World) (n : Int) (h1 : RnM w0 ps fuel fs L r W inp steps made deep out) (h3 : FrM W lo fb num at_ vs) (i : Int) (hi0 : 0 ≤ i) (hi1 : i < l.length) => write_any h1 HL.out h3 hlo hv0 hvl hi0 hi1 at_ n)
  have HVI := Lib.hid (fun (W : World) (h1 : RnM w0 ps fuel fs L r W inp steps made deep out) (h3 : FrM W lo fb num at_ vs) (h4 : PEV W x.index (.agg #[.int .i64 x.index.kind, .int .i64 x.index.n, vi])) => And.intro (@value_on _ _ _ _ _ _ _ _ _ _ _ _ _ _ _ _ _ h1 HL.out h3 _ hf _ hi _ h4) (@value_end _ _ _ _ _ _ _ _ _ _ _ _ _ _ _ _ _ h1 HL.out h3 _ hf _ hi _ h4))
  have HVE := Lib.hid (fun (W : World) (h1 : RnM w0 ps fuel fs L r W inp steps made deep out) (h3 : FrM W lo fb num at_ vs) (h4 : PEV W x.expr (.agg #[.int .i64 x.expr.kind, .int .i64 x.expr.n, ve])) => And.intro (@value_on _ _ _ _ _ _ _ _ _ _ _ _ _ _ _ _ _ h1 HL.out h3 _ hf _ he _ h4) (@value_end _ _ _ _ _ _ _ _ _ _ _ _ _ _ _ _ _ h1 HL.out h3 _ hf _ he _ h4))
  have hln : l.length ≤ maxLen := by
    obtain ⟨-, v, -, gs, hgs⟩ := hF
    obtain ⟨g, -, -, h, -⟩ := hgs.get hvl
    exact h
  have hP : putHow vs x = if (x.index.val vs).2 ≠ 0 then (x.index.val vs).2 else if (x.expr.val vs).2 ≠ 0 then (x.expr.val vs).2 else if 0 ≤ (x.index.val vs).1 ∧ (x.index.val vs).1 < l.length then 0 else 3 := by unfold putHow; rw [getD_of hvl]
  have HVL := Lib.hid hvl
  have i1 : x.var < vs.length := by have := hf.1; omega
  clear hR hF hl hvi hve hcs hf hi he hvl hsz hv1
  subst hq
  generalize putHow vs x = H at *
  generalize hxv : x.var = xv at *
  generalize hin : (x.index.val vs).1 = ni at *
  generalize hih : (x.index.val vs).2 = ih at *
  generalize hen : (x.expr.val vs).1 = ne at *
  generalize heh : (x.expr.val vs).2 = eh at *
  clear hxv hin hih hen heh
  go_enter Try.func161, Try.ntmps161
  go_upto_region 1 with fail
  generalize w.alloc (.cells (List.toArray [.int .i64 x.kind, .int .i64 xv, .int .i64 x.fn, .int .i64 x.index.kind, .int .i64 x.index.n, vi, .int .i64 x.expr.kind, .int .i64 x.expr.n, ve, va, vt, vz]) CMT) = W1 at *
  have c3 := HX1.out.cell (i := 3) (v := .int .i64 x.index.kind) rfl
  have c4 := HX1.out.cell (i := 4) (v := .int .i64 x.index.n) rfl
  have c5 := HX1.out.cell (i := 5) (v := vi) rfl
  go_wp2_with fail
  by_cases a1 : ih ≠ 0
  · refine ((HVI.out W1 HR1.out HF1.out HIV.out).2 a1).mono ?_
    rintro y w2 ⟨rfl, hR2, hK2⟩
    rw [if_pos a1] at hP
    subst hP
    have HR2 := Lib.hid hR2
    have HK2 := Lib.hid (HK1.out.tr (Stays.told hK2 (Nat.le_of_lt (Nat.lt_of_lt_of_le HLF.out HK1.out.k.size))))
    clear hR2 hK2 c3 c4 c5
    go_wp2
    go_ret
    exact Or.inl ⟨a1, rfl, HR2.out, HK2.out⟩
  have a1' : ih = 0 := by simpa using a1
  subst a1'
  rw [if_neg a1] at hP
  refine ((HVI.out W1 HR1.out HF1.out HIV.out).1 rfl).mono ?_
  rintro y w2 ⟨rfl, hb2⟩
  have HB2 := Lib.hid hb2
  have HX2 := Lib.hid (HX1.out.keep hb2)
  have HR2 := Lib.hid (HR1.out.keep hb2)
  have HF2 := Lib.hid (HF1.out.keep hb2)
  have HK2 := Lib.hid (HK1.out.tr (Stays.bel hb2 HR1.out.bel.size))
  have c6 := HX2.out.cell (i := 6) (v := .int .i64 x.expr.kind) rfl
  have c7 := HX2.out.cell (i := 7) (v := .int .i64 x.expr.n) rfl
  have c8 := HX2.out.cell (i := 8) (v := ve) rfl
  clear hb2 c3 c4 c5 HR1 HF1 HK1
  go_wp2_with fail
  by_cases a2 : eh ≠ 0
  · refine ((HVE.out w2 HR2.out HF2.out (HEV.out.keep HB2.out)).2 a2).mono ?_
    rintro y w3 ⟨rfl, hR3, hK3⟩
    rw [if_pos a2] at hP
    subst hP
    have HR3 := Lib.hid hR3
    have HK3 := Lib.hid (HK2.out.tr (Stays.told hK3 (Nat.le_of_lt (Nat.lt_of_lt_of_le HLF.out HK2.out.k.size))))
    clear hR3 hK3 c6 c7 c8
    go_wp2
    go_ret
    exact Or.inl ⟨a2, rfl, HR3.out, HK3.out⟩
  have a2' : eh = 0 := by simpa using a2
  subst a2'
  rw [if_neg a2] at hP
  refine ((HVE.out w2 HR2.out HF2.out (HEV.out.keep HB2.out)).1 rfl).mono ?_
  rintro y w3 ⟨rfl, hb3⟩
  have HX3 := Lib.hid (HX2.out.keep hb3)
  have HR3 := Lib.hid (HR2.out.keep hb3)
  have HF3 := Lib.hid (HF2.out.keep hb3)
  have HK3 := Lib.hid (HK2.out.tr (Stays.bel hb3 HR2.out.bel.size))
  obtain ⟨-, vv, hFB, gs, hgs⟩ := id HF3.out
  obtain ⟨b, c, g, rfl, -, hc, -, -⟩ := hgs.cell HVL.out
  have f2 := hFB.cell (i := 2) (v := .slice (some ⟨b, 0, none⟩) vs.length c) rfl
  have f1 := hFB.cell (i := 1) (v := .int .i64 at_) rfl
  have c1 := HX3.out.cell (i := 1) (v := .int .i64 xv) rfl
  clear hb3 c6 c7 c8 HR2 HF2 HK2 hFB hgs HVI HVE HX1 HX2
  by_cases a3 : ni < 0
  · have d1 : decide (ni < 0) = true := decide_eq_true a3
    rw [if_neg (by omega)] at hP
    subst hP
    clear HWV HIV HEV
    go_wp2
    go_quiet (fail)
    go_wp2_with fail
    refine (end_any (HR3.out.keep (Bel.drN (Bel.rfl_ w3) _)) HL.out (HF3.out.keep (Bel.drN (Bel.rfl_ w3) _)) at_ 3).mono ?_
    rintro y w4 ⟨rfl, hR4, hK4⟩
    have HR4 := Lib.hid hR4
    have HK4 := Lib.hid ((HK3.out.tr (Stays.bel (Bel.drN (Bel.rfl_ w3) _) HR3.out.bel.size)).tr (Stays.told hK4 (Nat.le_of_lt (Nat.lt_of_lt_of_le HLF.out HK3.out.k.size))))
    clear hR4 hK4
    go_wp2
    go_ret
    exact Or.inl ⟨by decide, rfl, HR4.out, HK4.out⟩
  have d1 : decide (ni < 0) = false := decide_eq_false a3
  by_cases a4 : ni ≥ l.length
  · have d2 : decide (ni ≥ (l.length : Int)) = true := decide_eq_true a4
    rw [if_neg (by omega)] at hP
    subst hP
    clear HWV HIV HEV
    go_wp2
    go_quiet (fail)
    go_wp2_with fail
    refine (end_any (HR3.out.keep (Bel.drN (Bel.rfl_ w3) _)) HL.out (HF3.out.keep (Bel.drN (Bel.rfl_ w3) _)) at_ 3).mono ?_
    rintro y w4 ⟨rfl, hR4, hK4⟩
    have HR4 := Lib.hid hR4
    have HK4 := Lib.hid ((HK3.out.tr (Stays.bel (Bel.drN (Bel.rfl_ w3) _) HR3.out.bel.size)).tr (Stays.told hK4 (Nat.le_of_lt (Nat.lt_of_lt_of_le HLF.out HK3.out.k.size))))
    clear hR4 hK4
    go_wp2
    go_ret
    exact Or.inl ⟨by decide, rfl, HR4.out, HK4.out⟩
  have d2 : decide (ni ≥ (l.length : Int)) = false := decide_eq_false a4
  have HN0 : Hid (0 ≤ ni) := Lib.hid (by omega)
  have HN1 : Hid (ni < l.length) := Lib.hid (by omega)
  rw [if_pos ⟨HN0.out, HN1.out⟩] at hP
  subst hP
  go_wp2
  go_quiet (fail)
  go_upto_region 9 with fail
  have HB4 := Lib.hid (Bel.drN (Bel.rfl_ w3) nq)
  have HX4 := Lib.hid (HX3.out.keep HB4.out)
  have HR4 := Lib.hid (HR3.out.keep HB4.out)
  have HF4 := Lib.hid (HF3.out.keep HB4.out)
  have HK4 := Lib.hid (HK3.out.tr (Stays.bel HB4.out HR3.out.bel.size))
  clear HX3 HR3 HF3 HK3 HB4 f1 f2 c1 hc
  generalize w3.drewN nq = W4 at *
  refine wp_region_held_drew (S := See fb w.heap.size num at_ xv) (by kernel_rfl) (HF4.out.keep ((Bel.rfl_ W4).dr) |>.see (HX4.out.keep ((Bel.rfl_ W4).dr)) rfl) (fun hS => ?_)
  refine rt_take (i := 0) (some 52) (.pointer (some ⟨r, 0, none⟩)) rfl rfl (by kernel_rfl) (by kernel_rfl) (by kernel_rfl) (fun _ _ _ h => h) (by kernel_rfl) hS (fun W _ => by kernel_rfl) ?_
  refine rt_take (i := 1) (some 53) (.pointer (some ⟨fb, 0, none⟩)) rfl rfl (by kernel_rfl) (by kernel_rfl) (by kernel_rfl) (fun _ _ _ h => h) (by kernel_rfl) hS (fun W _ => by kernel_rfl) ?_
  refine rt_take (i := 2) (some 54) (.pointer (some ⟨fb, 0, none⟩)) rfl rfl (by kernel_rfl) (by kernel_rfl) (by kernel_rfl) (fun _ _ _ h => h) (by kernel_rfl) hS (fun W _ => by kernel_rfl) ?_
  refine rt_take (i := 3) (some 55) (.pointer (some ⟨fb, 0, none⟩)) rfl rfl (by kernel_rfl) (by kernel_rfl) (by kernel_rfl) (fun _ _ _ h => h) (by kernel_rfl) hS (fun W _ => by kernel_rfl) ?_
  refine rt_take (i := 4) (some 56) (.pointer (some ⟨fb, 1, none⟩)) rfl rfl (by kernel_rfl) (by kernel_rfl) (by kernel_rfl) (fun _ _ _ h => h) (by kernel_rfl) hS (fun W _ => by kernel_rfl) ?_
  refine rt_take (i := 5) (some 57) (.int .i64 at_) rfl rfl (by kernel_rfl) (by kernel_rfl) (by kernel_rfl) (fun _ _ _ h => h) (by kernel_rfl) hS (fun W hb => rl_int rfl (by kernel_rfl) hb.2.1) ?_
  refine rt_take (i := 6) (some 58) (.pointer (some ⟨w.heap.size, 1, none⟩)) rfl rfl (by kernel_rfl) (by kernel_rfl) (by kernel_rfl) (fun _ _ _ h => h) (by kernel_rfl) hS (fun W _ => by kernel_rfl) ?_
  refine rt_take (i := 7) (some 59) (.int .i64 xv) rfl rfl (by kernel_rfl) (by kernel_rfl) (by kernel_rfl) (fun _ _ _ h => h) (by kernel_rfl) hS (fun W hb => rl_int rfl (by kernel_rfl) hb.2.2) ?_
  refine rt_take (i := 8) (some 60) (.int .i64 ni) rfl rfl (by kernel_rfl) (by kernel_rfl) (by kernel_rfl) (fun _ _ _ h => h) (by kernel_rfl) hS (fun W _ => by kernel_rfl) ?_
  refine rt_take (i := 9) (some 61) (.int .i64 ne) rfl rfl (by kernel_rfl) (by kernel_rfl) (by kernel_rfl) (fun _ _ _ h => h) (by kernel_rfl) hS (fun W _ => by kernel_rfl) ?_
  refine rt_call (i := 10) (some 62) (by kernel_rfl) rfl rfl (by kernel_rfl) 163 #[.pointer (some ⟨r, 0, none⟩), .pointer (some ⟨fb, 0, none⟩), .int .i64 at_, .int .i64 xv, .int .i64 ni, .int .i64 ne] (by kernel_rfl) (HWV.out _ ne (HR4.out.keep ((Bel.rfl_ W4).dr)) (HF4.out.keep ((Bel.rfl_ W4).dr)) ni HN0.out HN1.out) ?_
  rintro y2 W6 ⟨rfl, hR6, hF6, hK6⟩
  have hX6 := (HX4.out.keep ((Bel.rfl_ W4).dr)).kept hK6.j (HX4.out.lt) (by decide)
  refine ⟨_, rfl, hF6.see hX6 rfl, fun hS => ?_⟩
  refine wpAnyH_done (by kernel_rfl) ?_ _
  try simp only [Act.put, List.setIfInBounds_toArray, List.set_cons_zero, List.set_cons_succ]
  have HK6 := Lib.hid (HK4.out.tr ((Stays.bel ((Bel.rfl_ W4).dr) HR4.out.bel.size).tr hK6))
  have HR6 := Lib.hid hR6
  have HF6 := Lib.hid hF6
  clear hS hR6 hF6 hK6 hX6
  go_wp2
  go_ret
  first | exact Or.inr ⟨rfl, rfl, HR6.out, HF6.out, HK6.out⟩ | exact ⟨rfl, HR6.out, HF6.out, HK6.out⟩
end
namespace Mc
theorem writes_steps (a : Int) : ∀ (l : List Int) (i : Nat) (m : Mc), (writes a l i m).steps = m.steps
  | [], _, _ => rfl
  | n :: l, i, m => by rw [writes, writes_steps a l]; rfl
theorem call_steps (ps : List PF) (m : Mc) (x : PC) (f : Fr) (rest : List Fr) : (call ps m x f rest).steps = m.steps := by
  unfold call
  split
  · rfl
  split
  · rfl
  · rw [writes_steps]; rfl
theorem back_steps (ps : List PF) (m : Mc) (f : Fr) (rest : List Fr) : (m.back ps f rest).steps = m.steps := by
  unfold back
  split
  · rfl
  split
  · rfl
  split
  · rfl
  · rfl
theorem cmd_steps (m : Mc) (x : PC) (a : Int) (f : Fr) : (cmd m x a f).steps = m.steps := by
  unfold cmd
  repeat' split
  all_goals rfl
theorem do_steps (ps : List PF) (fuel : Int) (m : Mc) : m.steps ≤ (m.do_ ps fuel).steps := by
  unfold do_
  split
  · exact Int.le_refl _
  split
  · exact Int.le_refl _
  · rw [back_steps]; exact Int.le_refl _
  · split
    · exact Int.le_refl _
    split
    · rw [call_steps]; exact Int.le_add_of_nonneg_right (by decide)
    · rw [cmd_steps]; exact Int.le_add_of_nonneg_right (by decide)
theorem iter_steps (ps : List PF) (fuel : Int) : ∀ (n : Nat) (m : Mc), m.steps ≤ (m.iter ps fuel n).steps
  | 0, m => Int.le_refl _
  | n + 1, m => by
    refine Int.le_trans ?_ (iter_steps ps fuel n _)
    unfold go
    split
    · exact Int.le_refl _
    · exact do_steps ps fuel m
end Mc
theorem Reach.steps {ps : List PF} {fuel : Int} {m m' : Mc} (h : Reach ps fuel m m') : m.steps ≤ m'.steps := by
  obtain ⟨n, rfl⟩ := h
  exact Mc.iter_steps ps fuel n m
/-- what a run is told ahead of it: programs, fuel, the runner -/
structure Env where
  w0 : World
  ps : List PF
  fuel : Int
  fs : FS
  L : Nat
  r : Nat
/-- the runner is a machine -/
def RunM (E : Env) (w : World) (σ : Mc) (deep : Int) : Prop := RnM E.w0 E.ps E.fuel E.fs E.L E.r w σ.inp σ.steps σ.made deep σ.out
/-- a frame of the program's: where it lies, its number, its function; the frames that wait -/
structure Spot where
  lo : Nat
  fb : Nat
  num : Int
  fn : Int
  rest : List Fr
/-- a machine that goes on, its tasks -/
def AtS (E : Env) (p : Spot) (T : List Tk) (σ : Mc) (w : World) : Prop :=
  ∃ F, Good E.ps E.fuel σ F p.rest ∧ F.num = p.num ∧ F.fn = p.fn ∧ F.tasks = T ∧ FrM w p.lo p.fb p.num F.at_ F.vars ∧ RunM E w σ (p.rest.length + 1)
/-- where a list of commands ends -/
def Res (E : Env) (p : Spot) (T : List Tk) (σ : Mc) (w : World) (b : Bool) (w' : World) : Prop :=
  ∃ σ', Reach E.ps E.fuel σ σ' ∧ Stays E.w0.heap.size p.lo w w' ∧ (b = true → AtS E p T σ' w') ∧ (b = false → σ'.over = true ∧ ∃ d, RunM E w' σ' d)
theorem Res.on {E : Env} {p : Spot} {T : List Tk} {σ σ' : Mc} {w w' : World} (h1 : Reach E.ps E.fuel σ σ') (h2 : Stays E.w0.heap.size p.lo w w') (h3 : AtS E p T σ' w') : Res E p T σ w true w' := ⟨σ', h1, h2, (fun _ => h3), (fun h => by cases h)⟩
theorem Res.over {E : Env} {p : Spot} {T : List Tk} {σ σ' : Mc} {w w' : World} {d : Int} (h1 : Reach E.ps E.fuel σ σ') (h2 : Stays E.w0.heap.size p.lo w w') (h3 : σ'.over = true) (h4 : RunM E w' σ' d) : Res E p T σ w false w' := ⟨σ', h1, h2, (fun h => by cases h), fun _ => ⟨h3, d, h4⟩⟩
theorem Res.after {E : Env} {p : Spot} {T : List Tk} {σ σ1 : Mc} {w w1 w2 : World} {b : Bool} (h1 : Reach E.ps E.fuel σ σ1) (h2 : Stays E.w0.heap.size p.lo w w1) (h : Res E p T σ1 w1 b w2) : Res E p T σ w b w2 := by
  obtain ⟨σ', g1, g2, g3, g4⟩ := h
  exact ⟨σ', h1.tr g1, h2.tr g2, g3, g4⟩
theorem AtS.keep {E : Env} {p : Spot} {T : List Tk} {σ : Mc} {w W : World} (h : AtS E p T σ w) (hb : Bel w W) : AtS E p T σ W := by
  obtain ⟨F, h1, h2, h3, h4, h5, h6⟩ := h
  exact ⟨F, h1, h2, h3, h4, h5.keep hb, RnM.keep h6 hb⟩
theorem AtS.bel {E : Env} {p : Spot} {T : List Tk} {σ : Mc} {w : World} (h : AtS E p T σ w) : Bel E.w0 w := by
  obtain ⟨F, h1, h2, h3, h4, h5, h6⟩ := h
  exact RnM.bel h6
/-- lists of commands run as the machine does, so much fuel being left -/
def AllIs (E : Env) (N : Nat) : Prop := ∀ (p : Spot) (l : List PC) (at_ : Int) (T : List Tk) (σ : Mc) (w : World) (vl : Value), AtS E p (pushT l at_ ++ T) σ w → E.L ≤ p.lo → Sl pcR E.w0 vl l → E.fuel - σ.steps ≤ N → 0 ≤ at_ → at_ ≤ 1000 →
  Calls Try.prog 114 #[.pointer (some ⟨E.r, 0, none⟩), .pointer (some ⟨p.fb, 0, none⟩), vl, .int .i64 at_] w fun y w' => ∃ b, y = .returned (.bool b) ∧ Res E p T σ w b w'
/-- .. one command -/
def OneIs (E : Env) (N : Nat) : Prop := ∀ (p : Spot) (x : PC) (at_ : Int) (T : List Tk) (σ : Mc) (w : World) (val : Value), AtS E p (.cmd x at_ :: T) σ w → E.L ≤ p.lo → PCV E.w0 x val → E.fuel - σ.steps ≤ N →
  Calls Try.prog 147 #[.pointer (some ⟨E.r, 0, none⟩), .pointer (some ⟨p.fb, 0, none⟩), val, .int .i64 at_] w fun y w' => ∃ b, y = .returned (.bool b) ∧ Res E p T σ w b w'
/-- a command that is next is right -/
theorem AtS.ok {E : Env} {p : Spot} {T : List Tk} {x : PC} {a : Int} {σ : Mc} {w : World} (h : AtS E p (.cmd x a :: T) σ w) : ∃ z, CmdOk E.ps z x a ∧ TsOk E.ps z T := by
  obtain ⟨F, h1, h2, h3, h4, h5, h6⟩ := h
  obtain ⟨g, -, -, -, ht, -⟩ := h1.ok
  rw [h4] at ht
  exact ⟨g.sizes, ht⟩
theorem pushT_drop {l : List PC} {j : Nat} {x : PC} (hx : l[j]? = some x) (a : Int) : pushT (l.drop j) a = .cmd x a :: pushT (l.drop (j + 1)) (a + x.cnt) := by
  obtain ⟨hl, rfl⟩ := List.getElem?_eq_some_iff.1 hx
  rw [List.drop_eq_getElem_cons hl, pushT]
section
variable {o : Oper} {ρ : Operand → Value} {W : World} {x y : Operand} {t2 : TypeId} {k l m : Int}
theorem rb_addI (ho : o.op = .binOp .add 3 x y t2) (hx : ρ x = .int .i64 k) (hy : ρ y = .int .i64 l) (h0 : 0 ≤ k) (h1 : k ≤ 1000000) (h2 : 0 ≤ l) (h3 : l ≤ 1000000) (hm : k + l = m) : (execOp ρ o).run Try.prog W = .ok (.value (.int .i64 m)) W := by
  subst hm
  have hw : IntKind.i64.wrap (k + l) = k + l := by rw [IntKind.wrap_i64]; omega
  simp [execOp, ho, hx, hy, hw, go_sem]
end
set_option maxRecDepth 20000 in
set_option maxHeartbeats 8000000 in
theorem all_of (E : Env) (hp : Prog E.ps) (N : Nat) (HONE : OneIs E N) : AllIs E N := by
  intro p l at0 T σ0 w vl hA hL hvl hN h0 h1
  have HON := Lib.hid HONE
  have HSL := Lib.hid hvl
  have HLL := Lib.hid hL
  have HS : Hid (E.fuel - σ0.steps ≤ N) := Lib.hid hN
  have HA0 := Lib.hid hA
  have HPR := Lib.hid hp
  obtain ⟨A, c, rfl, hll⟩ := sl_lit hvl
  clear hvl hL hN hA HONE hp
  go_enter Try.func114, Try.ntmps114
  go_wp2
  go_loopw [3, 13] (fun a i wr => ∃ (j : Nat) (at_ : Int) (σ : Mc), i = .int .i64 j ∧ j ≤ l.length ∧ a = .int .i64 at_ ∧ 0 ≤ at_ ∧ at_ ≤ 1000 ∧ Hid (Reach E.ps E.fuel σ0 σ) ∧ Hid (AtS E p (pushT (l.drop j) at_ ++ T) σ wr) ∧ Hid (Stays E.w0.heap.size p.lo w wr)) (fun _ i _ => l.length - (intOf i).toNat)
  case atStart => exact ⟨0, at0, σ0, rfl, Nat.zero_le _, rfl, h0, h1, Lib.hid (Reach.rfl_ _), HA0, Lib.hid (Stays.rfl_ _ _ _)⟩
  case round =>
    obtain ⟨j, at_, σ, rfl, hj, rfl, ha0, ha1, HR, HA, HST⟩ := hrel
    obtain ⟨WO, hWO⟩ : ∃ W, W = wr := ⟨_, rfl⟩
    subst hWO
    clear HA0 h0 h1
    by_cases hlt : j < l.length
    rotate_left
    · have hdd : decide ((j : Int) < l.length) = false := decide_eq_false (by omega)
      have hjl : j = l.length := by omega
      subst hjl
      have HE : Hid (AtS E p T σ WO) := Lib.hid (by have := HA.out; rw [List.drop_length] at this; exact this)
      clear HA
      go_wp2
      go_ret
      exact ⟨true, rfl, Res.on HR.out HST.out HE.out⟩
    have hdd : decide ((j : Int) < l.length) = true := decide_eq_true (by omega)
    obtain ⟨x, hx⟩ : ∃ x, l[j]? = some x := ⟨_, List.getElem?_eq_getElem hlt⟩
    obtain ⟨b, o, cs, rfl, hcs, hca⟩ := HSL.out.elem hx
    have HA1 : Hid (AtS E p (.cmd x at_ :: (pushT (l.drop (j + 1)) (at_ + x.cnt) ++ T)) σ WO) := Lib.hid (by have := HA.out; rw [pushT_drop hx] at this; exact this)
    obtain ⟨z, hok, -⟩ := HA1.out.ok
    obtain ⟨hk0, hk1, hfin, -⟩ := id hok
    have hcn := PC.cnt_eq x
    have HB := Lib.hid HA1.out.bel
    have HSTS := Lib.hid HR.out.steps
    have HX0 : Hid (PCV E.w0 x (.agg cs.toArray)) := Lib.hid ⟨cs, hcs, rfl⟩
    have i0 : (0 : Int) ≤ j := by omega
    have i1 : (j : Int) < l.length := by omega
    have HFT := Lib.hid hok.thn
    have HFE := Lib.hid hok.els
    have HCS : Hid (PCR E.w0 x cs) := Lib.hid hcs
    have HCA := Lib.hid (hca.keep HB.out)
    have hct : cntP x.thn ≤ 1000 := by omega
    have hce : cntP x.els ≤ 1000 := by omega
    have hNN : E.fuel - σ.steps ≤ N := by have := HSTS.out; have := HS.out; omega
    clear hcs hca hok hfin HA
    go_upto_region 4 with (refine copyPC (.tmp 15) (.tmp 10) (.tmp 16) rfl rfl rfl rfl rfl rfl b (o + j * 12) (by exact rfl) cs HCA.out HCS.out (by exact rfl) (by exact rfl) ?_)
    have HBX : Hid (Bel WO (WO.alloc (.cells cs.toArray CMT))) := Lib.hid ((Bel.rfl_ WO).al _)
    have HK := Lib.hid (Blk.new WO CMT cs.toArray)
    have HA2 := Lib.hid (HA1.out.keep HBX.out)
    have HST2 := Lib.hid (HST.out.tr (Stays.bel HBX.out HB.out.size))
    have HON1 := Lib.hid (HON.out p x at_ _ σ _ (.agg cs.toArray) HA2.out HLL.out HX0.out hNN)
    obtain ⟨vi, ve, va, vt, vs, hq, -, -, -, hst, hsl⟩ := pcCells HCS.out
    obtain ⟨At, ct, rfl, -⟩ := sl_lit hst
    obtain ⟨Al, cl, rfl, -⟩ := sl_lit hsl
    have HST1 := Lib.hid hst
    have HSL1 := Lib.hid hsl
    have HL12 : Hid (cs.length = 12) := Lib.hid (pcR.len HCS.out)
    have HC10 : Hid (cs.toArray[10]? = some (.slice At x.thn.length ct)) := Lib.hid (by rw [hq]; rfl)
    have HC11 : Hid (cs.toArray[11]? = some (.slice Al x.els.length cl)) := Lib.hid (by rw [hq]; rfl)
    clear hq hst hsl HA1 HST HCS HCA HX0 HBX
    generalize hW1 : WO.alloc _ = W1 at *
    clear hW1
    generalize WO.heap.size = K at *
    refine wl_region ?_
    try dsimp only [List.append]
    refine wl_do (some 17) (.pointer (some ⟨E.r, 0, none⟩)) rfl (by kernel_rfl) (by kernel_rfl) ?_
    refine wl_do (some 18) (.pointer (some ⟨p.fb, 0, none⟩)) rfl (by kernel_rfl) (by kernel_rfl) ?_
    refine wl_do (some 19) (.agg cs.toArray) rfl (by kernel_rfl) (run_loadRow 120 (.tmp 10) rfl elPC K 0 (by kernel_rfl) cs (blkRange HK.out 0 (by rw [Nat.zero_add]; simp)) HL12.out (by kernel_rfl)) ?_
    refine wl_do (some 20) (.int .i64 at_) rfl (by kernel_rfl) (by kernel_rfl) ?_
    refine wl_call (some 21) rfl (by kernel_rfl) 147 #[.pointer (some ⟨E.r, 0, none⟩), .pointer (some ⟨p.fb, 0, none⟩), .agg cs.toArray, .int .i64 at_] (by kernel_rfl) HON1.out ?_
    rintro y W3 ⟨b1, rfl, σ', hr1, hs1, ht1, hf1⟩
    refine ⟨_, rfl, ?_⟩
    have HK3 := Lib.hid (HK.out.kept hs1.j HK.out.lt (by decide))
    have HST3 := Lib.hid (HST2.out.tr hs1)
    have HR3 := Lib.hid (HR.out.tr hr1)
    clear HON1 hs1 HK HA2 hr1
    cases b1 with
    | false =>
      obtain ⟨ho, d, hd⟩ := hf1 rfl
      have HO := Lib.hid ho
      have HD := Lib.hid hd
      clear hf1 ht1 ho hd
      refine wl_do (some 22) (.bool true) rfl (by kernel_rfl) (by kernel_rfl) ?_
      refine wl_nil ?_
      try simp only [Act.put, List.setIfInBounds_toArray, List.set_cons_zero, List.set_cons_succ]
      go_wp2
      go_ret
      exact ⟨false, rfl, Res.over HR3.out HST3.out HO.out HD.out⟩
    | true =>
      have HA3 := Lib.hid (ht1 rfl)
      clear hf1 ht1
      have HB3 := Lib.hid HA3.out.bel
      refine wl_do (some 22) (.bool false) rfl (by kernel_rfl) (by kernel_rfl) ?_
      refine wl_nil ?_
      try simp only [Act.put, List.setIfInBounds_toArray, List.set_cons_zero, List.set_cons_succ]
      go_upto_region 6 with fail
      refine wp_region_held_drew (S := fun W => Bel W3 W) (by kernel_rfl) ((Bel.rfl_ W3).dr) (fun hS => ?_)
      refine rt_take (i := 0) (some 23) (.int .i64 at_) rfl rfl (by kernel_rfl) (by kernel_rfl) (by kernel_rfl) (fun _ _ _ h => h) (by kernel_rfl) hS (fun W _ => by kernel_rfl) ?_
      refine rt_take (i := 1) (some 24) (.pointer (some ⟨K, 10, none⟩)) rfl rfl (by kernel_rfl) (by kernel_rfl) (by kernel_rfl) (fun _ _ _ h => h) (by kernel_rfl) hS (fun W _ => by kernel_rfl) ?_
      refine rt_take (i := 2) (some 25) (.slice At x.thn.length ct) rfl rfl (by kernel_rfl) (by kernel_rfl) (by kernel_rfl) (fun _ _ _ h => h) (by kernel_rfl) hS (fun W hb => rl_cs rfl (by kernel_rfl) ((HK3.out.keep hb).cell (i := 10) HC10.out)) ?_
      refine rt_take (i := 5) (some 28) (.pointer (some ⟨K, 11, none⟩)) rfl rfl (by kernel_rfl) (by kernel_rfl) (by kernel_rfl) (fun _ _ _ h => h) (by kernel_rfl) hS (fun W _ => by kernel_rfl) ?_
      refine rt_take (i := 6) (some 29) (.slice Al x.els.length cl) rfl rfl (by kernel_rfl) (by kernel_rfl) (by kernel_rfl) (fun _ _ _ h => h) (by kernel_rfl) hS (fun W hb => rl_cs rfl (by kernel_rfl) ((HK3.out.keep hb).cell (i := 11) HC11.out)) ?_
      refine rt_call (i := 3) (some 26) (by kernel_rfl) rfl rfl (by kernel_rfl) 143 #[.slice At x.thn.length ct] (by kernel_rfl) (many_any _ _ _ (HST1.out.keep (HB3.out.tr hS)) HFT.out.2.2.1 hct) ?_
      rintro y2 W9 ⟨rfl, hb⟩
      refine ⟨_, rfl, hS.tr hb, fun hS => ?_⟩
      refine rt_take (i := 4) (some 27) (.int .i64 (1 + cntP x.thn : Int)) rfl rfl (by kernel_rfl) (by kernel_rfl) (by kernel_rfl) (fun _ _ _ h => h) (by kernel_rfl) hS (fun W _ => rb_addI (k := 1) (l := (cntP x.thn)) rfl (by kernel_rfl) (by kernel_rfl) (by omega) (by omega) (by omega) (by omega) rfl) ?_
      refine rt_call (i := 7) (some 30) (by kernel_rfl) rfl rfl (by kernel_rfl) 143 #[.slice Al x.els.length cl] (by kernel_rfl) (many_any _ _ _ (HSL1.out.keep (HB3.out.tr hS)) HFE.out.2.2.1 hce) ?_
      rintro y2 W9 ⟨rfl, hb⟩
      refine ⟨_, rfl, hS.tr hb, fun hS => ?_⟩
      refine rt_take (i := 8) (some 31) (.int .i64 (1 + cntP x.thn + cntP x.els : Int)) rfl rfl (by kernel_rfl) (by kernel_rfl) (by kernel_rfl) (fun _ _ _ h => h) (by kernel_rfl) hS (fun W _ => rb_addI (k := (1 + cntP x.thn : Int)) (l := (cntP x.els)) rfl (by kernel_rfl) (by kernel_rfl) (by omega) (by omega) (by omega) (by omega) rfl) ?_
      refine rt_take (i := 9) (some 32) (.int .i64 (at_ + x.cnt)) rfl rfl (by kernel_rfl) (by kernel_rfl) (by kernel_rfl) (fun _ _ _ h => h) (by kernel_rfl) hS (fun W _ => rb_addI (k := at_) (l := (1 + cntP x.thn + cntP x.els : Int)) rfl (by kernel_rfl) (by kernel_rfl) (by omega) (by omega) (by omega) (by omega) (by omega)) ?_
      refine rt_take (i := 10) (some 3) (.int .i64 (at_ + x.cnt)) rfl rfl (by kernel_rfl) (by kernel_rfl) (by kernel_rfl) (fun _ _ _ h => h) (by kernel_rfl) hS (fun W _ => by kernel_rfl) ?_
      refine wpAnyH_done (by kernel_rfl) ?_ _
      try simp only [Act.put, List.setIfInBounds_toArray, List.set_cons_zero, List.set_cons_succ]
      have HA4 := Lib.hid (HA3.out.keep hS)
      have HST4 := Lib.hid (HST3.out.tr (Stays.bel hS HB3.out.size))
      clear hS HA3 HST3 HK3 HST1 HSL1 HST2
      have hw1 : IntKind.i64.wrap ((j : Int) + 1) = j + 1 := by rw [IntKind.wrap_i64]; omega
      go_wp2
      go_roundw
      case rel => exact ⟨j + 1, at_ + x.cnt, _, by go_num, by omega, rfl, by omega, by omega, HR3, HA4, HST4⟩
      case measure => simp [intOf]; omega
end Go.Proofs.Ytgkpplbomciehaa
