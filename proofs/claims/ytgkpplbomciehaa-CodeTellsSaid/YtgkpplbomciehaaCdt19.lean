/- A function, by the program's checker: walked. Each lemma states its own conditions. -/
import Derived.Test.YtgkpplbomciehaaCdt18
namespace Go.Proofs.Ytgkpplbomciehaa
open Go.RowKit
abbrev ERT : TypeId := 28
abbrev PCT : TypeId := 153
theorem rl_pc {o : Oper} {ρ : Operand → Value} {W : World} {x : Operand} {b f : Nat} {v : Value} (ho : o.op = .load PCT x) (hx : ρ x = .pointer (some ⟨b, f, none⟩)) (hc : W.cell? ⟨b, f, none⟩ = some v) : (execOp ρ o).run Try.prog W = .ok (.value v) W := by
  simp [execOp, ho, hx, hc, go_sem]
theorem wl_set {P : Program} {ops : Array Oper} {Q : Exit → Act → World → Prop} {rest : List Oper} {o : Oper} {a : Act} {w : World} (d : Option Tmp) (w' : World) (hd : o.dst = d) (hw : Region.wanted o (yielded ops a.tmps) = true) (hrun : (execOp a.eval o).run P w = .ok .skip w') (h : WL P ops Q rest (a.put d undef) w') : WL P ops Q (o :: rest) a w :=
  ⟨wpList_step fun K hK => by
    subst hd
    rw [if_pos hw]
    unfold Oper.wp
    rw [hrun, Oper.upon_skip]
    exact hK _ _ h.out⟩
theorem rs_err {o : Oper} {ρ : Operand → Value} {W : World} {x y : Operand} {b f : Nat} {v : Value} {n : Int} (ho : o.op = .store ERT x y) (hx : ρ x = .pointer (some ⟨b, f, none⟩)) (hy : ρ y = .int .i64 n) (hc : W.cell? ⟨b, f, none⟩ = some v) (hf : W.frozen? ⟨b, f, none⟩ = false) : (execOp ρ o).run Try.prog W = .ok .skip (W.setCell ⟨b, f, none⟩ (.int .i64 n)) := by
  simp [execOp, ho, hx, hy, hc, hf, go_sem]
set_option maxRecDepth 20000 in
set_option maxHeartbeats 4000000 in
theorem fn1_does (w0 ws : World) (ps : List PF) (f : PF) (calls : Int) (g PV R : Nat) (hR : w0.heap.size ≤ R) (hws : Bel w0 ws) (hm : ChkM w0 ws ps f calls g) (hpv : Blk ws PV PCT #[.pointer (some ⟨g, 0, none⟩)]) (hPR : PV ≠ R) (hgR : g ≠ R)
    (hz0 : ∀ n ∈ f.sizes, 0 ≤ n) (hcl : calls ≤ (ps.length : Int)) (hps : ∀ (i : Nat) gg, ps[i]? = some gg → (i : Int) < calls → gg.params ≤ 3) :
    Does 140 #[.pointer (some ⟨PV, 0, none⟩), .pointer (some ⟨R, 0, none⟩)] ERT (fErr (ps.map PF.params) f.sizes calls) Ok0 w0 ws R := by
  intro x d s cs W hok hcs hg hb
  obtain ⟨rfl, -⟩ := hok
  have HCM := Lib.hid (fun W' (hb : Bel W W') => cmd_any w0 W' ps f calls g x cs (by
    obtain ⟨vp, c, h1, h2, h3⟩ := hm
    exact ⟨vp, c, (h1.grown hg (by simpa using hgR)).keep hb, h2, h3⟩) ((grownBel hws hR hg).tr hb) hz0 hcl hps hcs)
  have HP : Hid (fErr (ps.map PF.params) f.sizes calls 0 x d = (x.own (ps.map PF.params) f.sizes calls, decide (x.own (ps.map PF.params) f.sizes calls = 0))) := Lib.hid rfl
  generalize fErr (ps.map PF.params) f.sizes calls 0 x d = T at *
  generalize x.own (ps.map PF.params) f.sizes calls = E at *
  obtain ⟨vi, ve, va, vt, vs, rfl, -⟩ := pcCells hcs
  generalize x.kind = xk at *
  generalize x.var = xv at *
  generalize x.fn = xf at *
  generalize x.index.kind = ik at *
  generalize x.index.n = iN at *
  generalize x.expr.kind = ek at *
  generalize x.expr.n = eN at *
  have HB : Hid (Bel W (W.alloc (.cells #[.int .i64 xk, .int .i64 xv, .int .i64 xf, .int .i64 ik, .int .i64 iN, vi, .int .i64 ek, .int .i64 eN, ve, va, vt, vs] 120))) := Lib.hid ((Bel.rfl_ W).al _)
  have HK := Lib.hid (Blk.new W 120 #[.int .i64 xk, .int .i64 xv, .int .i64 xf, .int .i64 ik, .int .i64 iN, vi, .int .i64 ek, .int .i64 eN, ve, va, vt, vs])
  have HPV := Lib.hid ((hpv.grown hg (by simpa using hPR)).keep HB.out)
  have HBR := Lib.hid (hb.keep HB.out)
  clear hb hcs hg hpv
  show Calls Try.prog 140 #[.agg #[.int .i64 xk, .int .i64 xv, .int .i64 xf, .int .i64 ik, .int .i64 iN, vi, .int .i64 ek, .int .i64 eN, ve, va, vt, vs], .int .i64 d, .pointer (some ⟨PV, 0, none⟩), .pointer (some ⟨R, 0, none⟩)] W _
  go_enter Try.func140, Try.ntmps140
  go_upto_region 1 with fail
  generalize W.alloc _ = W1 at *
  generalize W.heap.size = KX at *
  refine wl_region ?_
  try dsimp only [List.append]
  refine wl_do (some 7) (.pointer (some ⟨g, 0, none⟩)) rfl (by kernel_rfl) (rl_pc rfl (by kernel_rfl) (HPV.out.cell (i := 0) (v := .pointer (some ⟨g, 0, none⟩)) rfl)) ?_
  refine wl_do (some 8) (.agg #[.int .i64 xk, .int .i64 xv, .int .i64 xf, .int .i64 ik, .int .i64 iN, vi, .int .i64 ek, .int .i64 eN, ve, va, vt, vs]) rfl (by kernel_rfl) (run_loadRow 120 (.tmp 4) rfl elPC KX 0 (by kernel_rfl) [.int .i64 xk, .int .i64 xv, .int .i64 xf, .int .i64 ik, .int .i64 iN, vi, .int .i64 ek, .int .i64 eN, ve, va, vt, vs] (blkRange HK.out 0 rfl) rfl (by kernel_rfl)) ?_
  refine wl_call (some 9) rfl (by kernel_rfl) 141 #[.pointer (some ⟨g, 0, none⟩), .agg #[.int .i64 xk, .int .i64 xv, .int .i64 xf, .int .i64 ik, .int .i64 iN, vi, .int .i64 ek, .int .i64 eN, ve, va, vt, vs]] (by kernel_rfl) (HCM.out _ HB.out) ?_
  rintro r W3 ⟨rfl, hb⟩
  replace HB := Lib.hid (HB.out.tr hb)
  replace HBR := Lib.hid (HBR.out.keep hb)
  clear hb
  refine ⟨_, rfl, ?_⟩
  have hfr := HBR.out.frozen 0
  refine wl_set none (W3.setCell ⟨R, 0, none⟩ (.int .i64 E)) rfl (by kernel_rfl) (rs_err rfl (by kernel_rfl) (by kernel_rfl) (HBR.out.cell (i := 0) rfl) hfr) ?_
  refine wl_nil ?_
  try simp only [Act.put, List.setIfInBounds_toArray, List.set_cons_zero, List.set_cons_succ]
  have HBS : Hid (Blk (W3.setCell ⟨R, 0, none⟩ (.int .i64 E)) R ERT #[.int .i64 E]) := Lib.hid (HBR.out.set_ 0 (.int .i64 E))
  have HGS : Hid (W.grownBy (W3.setCell ⟨R, 0, none⟩ (.int .i64 E)) (some R)) := Lib.hid ((HB.out.grown (some R)).trans (grown_one W3 R 0 (.int .i64 E)))
  generalize W3.setCell ⟨R, 0, none⟩ (.int .i64 E) = W4 at *
  have x0 := HBS.out.cell (i := 0) (v := .int .i64 E) rfl
  by_cases hE : E = 0
  · subst hE
    go_wp2
    go_ret
    exact ⟨by rw [HP.out]; rfl, HGS.out, by rw [HP.out]; exact HBS.out⟩
  · have dE : (E == 0) = false := by simpa using hE
    go_wp2
    go_ret
    exact ⟨by rw [HP.out, decide_eq_false hE]; rfl, HGS.out, by rw [HP.out]; exact HBS.out⟩
/-- a function's error, in the order of the program's checks -/
theorem fnErr_eq (pms : List Int) (calls : Int) (main : Bool) (f : PF) : f.err pms calls main = orE (headP main f) (orE (errCs pms f.sizes calls f.cmds) (if main then (if f.result.none_ then 0 else 1) else f.result.err f.sizes)) := by
  unfold PF.err headP
  by_cases h1 : f.params < 0 ∨ (f.sizes.length : Int) < f.params
  · rw [if_pos h1, if_pos h1, orE_n (a := 3) (by decide)]
  rw [if_neg h1, if_neg h1]
  by_cases h2 : 3 < f.params ∨ 6 < (f.sizes.length : Int) - f.params
  · rw [if_pos h2, if_pos h2, orE_n (a := 2) (by decide)]
  rw [if_neg h2, if_neg h2]
  by_cases h3 : f.sizes.all (fun n => decide (0 ≤ n ∧ n ≤ 8)) = false
  · rw [if_pos h3, if_pos h3, orE_n (a := 3) (by decide)]
  rw [if_neg h3, if_neg h3]
  by_cases h4 : (f.sizes.take f.params.toNat).all (fun n => decide (n = 0)) = false ∨ (main = true ∧ 0 < f.params)
  · rw [if_pos h4, if_pos h4, orE_n (a := 1) (by decide)]
  · rw [if_neg h4, if_neg h4, orE_z]
theorem headP_ok {main : Bool} {f : PF} (h : headP main f = 0) : (∀ n ∈ f.sizes, 0 ≤ n) ∧ f.params ≤ 3 := by
  unfold headP at h
  by_cases h1 : f.params < 0 ∨ (f.sizes.length : Int) < f.params
  · rw [if_pos h1] at h; omega
  rw [if_neg h1] at h
  by_cases h2 : 3 < f.params ∨ 6 < (f.sizes.length : Int) - f.params
  · rw [if_pos h2] at h; omega
  rw [if_neg h2] at h
  by_cases h3 : f.sizes.all (fun n => decide (0 ≤ n ∧ n ≤ 8)) = false
  · rw [if_pos h3] at h; omega
  have h3 : f.sizes.all (fun n => decide (0 ≤ n ∧ n ≤ 8)) = true := by simpa using h3
  rw [List.all_eq_true] at h3
  exact ⟨fun n hn => (of_decide_eq_true (h3 n hn)).1, by omega⟩
set_option maxRecDepth 20000 in
set_option maxHeartbeats 8000000 in
theorem fn_any (w0 w : World) (ps : List PF) (f : PF) (calls : Int) (g : Nat) (main : Bool) (hm : ChkM w0 w ps f calls g) (hb0 : Bel w0 w) (hf : fineP f.cmds 1 = true) (hcl : calls ≤ (ps.length : Int)) (hps : f.params ≤ 3 → ∀ (i : Nat) gg, ps[i]? = some gg → (i : Int) < calls → gg.params ≤ 3) :
    Calls Try.prog 98 #[.pointer (some ⟨g, 0, none⟩), .bool main] w fun r w' => r = .returned (.int .i64 (f.err (ps.map PF.params) calls main)) ∧ Bel w w' := by
  have HH := Lib.hid (fun W (hb : Bel w W) => head_any w0 W ps f calls g main (hm.keep hb) (hb0.tr hb))
  have hg := hm.cells.elim fun vp h => h.elim fun vz h => h.elim fun vc h => h.elim fun vr h => h.1.lt
  have HWK := Lib.hid (fun (h0 : headP main f = 0) ws R vc (hR : w.heap.size < R) (hws : Bel w ws) (hpv : Blk ws w.heap.size PCT #[.pointer (some ⟨g, 0, none⟩)]) (hbk : Blk ws R ERT #[.int .i64 0]) (hv : Sl pcR w0 vc f.cmds) =>
    walk_anyC (.pointer (some ⟨w.heap.size, 0, none⟩)) (.pointer (some ⟨R, 0, none⟩)) ERT (fErr (ps.map PF.params) f.sizes calls) Ok0 (fun _ _ _ h => h.2) w0 ws R (Nat.le_trans hb0.size (Nat.le_of_lt hR)) (hb0.tr hws)
      (fn1_does w0 ws ps f calls g w.heap.size R (Nat.le_trans hb0.size (Nat.le_of_lt hR)) (hb0.tr hws) (hm.keep hws) hpv (by omega) (by omega) (headP_ok h0).1 hcl (hps (headP_ok h0).2)) f.cmds 1 0 vc ws (errL_walk (ps.map PF.params) f.sizes calls f.cmds 1 hf (by decide)).2 hv (World.grownBy.refl _ _) hbk)
  have HWP := Lib.hid (errL_walk (ps.map PF.params) f.sizes calls f.cmds 1 hf (by decide)).1
  have HT : Hid (f.err (ps.map PF.params) calls main = orE (headP main f) (orE (errCs (ps.map PF.params) f.sizes calls f.cmds) (if main then (if f.result.none_ then 0 else 1) else f.result.err f.sizes))) := Lib.hid (fnErr_eq _ _ _ _)
  obtain ⟨vp, vz, vc, vr, hbk, hvp, hz, hc, hr⟩ := hm.cells
  have HNO := Lib.hid (fun W (hb : Bel w0 W) => none_any f.result (.agg #[.int .i64 f.result.kind, .int .i64 f.result.n, vr]) W ⟨_, rfl, hr.keep hb⟩)
  have HEX := Lib.hid (fun (h0 : headP main f = 0) W (hb : Bel w0 W) => expr_any f.sizes (headP_ok h0).1 f.result (.agg #[.int .i64 f.result.kind, .int .i64 f.result.n, vr]) vz W ⟨_, rfl, hr.keep hb⟩ (hz.keep hb))
  have HC := Lib.hid hc
  obtain ⟨Az, cz, rfl, -⟩ := sl_lit hz
  obtain ⟨Ac, cc, rfl, -⟩ := sl_lit hc
  obtain ⟨Ar, cr, rfl, -⟩ := sl_lit hr
  have HB0 := Lib.hid hb0
  have HBK := Lib.hid hbk
  have HX : Hid (Bel w (w.alloc (.cells #[.pointer (some ⟨g, 0, none⟩)] PCT))) := Lib.hid ((Bel.rfl_ w).al _)
  have HPV := Lib.hid (Blk.new w PCT #[.pointer (some ⟨g, 0, none⟩)])
  clear hm hb0 hf hcl hps hbk hvp hz hc hr
  generalize f.err (ps.map PF.params) calls main = T at *
  generalize errCs (ps.map PF.params) f.sizes calls f.cmds = EC at *
  generalize f.result.none_ = NO at *
  generalize f.result.err f.sizes = ER at *
  generalize hHP : headP main f = HP at *
  generalize f.result.kind = rk at *
  generalize f.result.n = rn at *
  generalize f.params = fp at *
  have p0 := HPV.out.cell (i := 0) (v := .pointer (some ⟨g, 0, none⟩)) rfl
  go_enter Try.func98, Try.ntmps98
  go_wp2_with fail
  refine (HH.out _ HX.out).mono ?_
  rintro r w1 ⟨rfl, hb⟩
  replace HX := Lib.hid (HX.out.tr hb)
  replace HPV := Lib.hid (HPV.out.keep hb)
  clear hb p0 HH
  by_cases h0 : HP ≠ 0
  · have d0 : (HP != 0) = true := by simpa using h0
    have HR : Hid (T = HP) := Lib.hid (by rw [HT.out, orE_n h0])
    clear h0
    go_wp2
    go_ret
    exact ⟨by rw [HR.out]; rfl, HX.out⟩
  have h00 : HP = 0 := by omega
  subst h00
  replace HT : Hid (T = orE EC (if main then (if NO then 0 else 1) else ER)) := Lib.hid (by rw [HT.out, orE_z])
  replace HWK := Lib.hid (HWK.out rfl)
  replace HEX := Lib.hid (HEX.out rfl)
  clear h0
  have hsz : w.heap.size < w1.heap.size := HPV.out.lt
  have HK1 := Lib.hid (Blk.new w1 ERT #[.int .i64 0])
  have HX1 : Hid (Bel w (w1.alloc (.cells #[.int .i64 0] ERT))) := Lib.hid (HX.out.al _)
  have HPV1 := Lib.hid (HPV.out.keep ((Bel.rfl_ w1).al (.cells #[.int .i64 0] ERT)))
  have p0 := HPV1.out.cell (i := 0) (v := .pointer (some ⟨g, 0, none⟩)) rfl
  have q3 := (HBK.out.keep HX1.out).cell (i := 3) (v := .slice Ac f.cmds.length cc) rfl
  go_wp2_with fail
  refine (HWK.out _ _ _ hsz HX1.out HPV1.out HK1.out HC.out).mono ?_
  rintro r w2 ⟨rfl, hgr, hbr⟩
  rw [HWP.out] at hbr
  have hb2 := grownTo HX1.out (Nat.le_of_lt hsz) hgr
  have HX2 := Lib.hid hb2
  have HPV2 := Lib.hid (HPV1.out.grown hgr (by simp; omega))
  have e0 := hbr.cell (i := 0) (v := .int .i64 EC) rfl
  clear hgr hb2 p0 q3 hbr HWP HWK HC
  have p0 := HPV2.out.cell (i := 0) (v := .pointer (some ⟨g, 0, none⟩)) rfl
  have HBK2 := Lib.hid (HBK.out.keep HX2.out)
  have q2 := HBK2.out.cell (i := 2) (v := .slice Az f.sizes.length cz) rfl
  have q4 := HBK2.out.cell (i := 4) (v := .int .i64 rk) rfl
  have q5 := HBK2.out.cell (i := 5) (v := .int .i64 rn) rfl
  have q6 := HBK2.out.cell (i := 6) (v := .slice Ar f.result.args.length cr) rfl
  by_cases hE : EC ≠ 0
  · have dE : (EC != 0) = true := by simpa using hE
    have HR : Hid (T = EC) := Lib.hid (by rw [HT.out, orE_n hE])
    clear hE
    go_wp2
    go_ret
    exact ⟨by rw [HR.out]; rfl, HX2.out⟩
  have hE0 : EC = 0 := by omega
  subst hE0
  replace HT : Hid (T = if main then (if NO then 0 else 1) else ER) := Lib.hid (by rw [HT.out, orE_z])
  clear hE
  cases main with
  | true =>
    go_wp2_with fail
    refine (HNO.out _ (HB0.out.tr HX2.out)).mono ?_
    rintro r w3 ⟨rfl, hb⟩
    have HX3 := Lib.hid (HX2.out.tr hb)
    clear hb
    cases NO with
    | true =>
      have HR : Hid (T = 0) := Lib.hid HT.out
      go_wp2
      go_ret
      exact ⟨by rw [HR.out]; rfl, HX3.out⟩
    | false =>
      have HR : Hid (T = 1) := Lib.hid HT.out
      go_wp2
      go_ret
      exact ⟨by rw [HR.out]; rfl, HX3.out⟩
  | false =>
    have HR : Hid (T = ER) := Lib.hid HT.out
    go_upto_region 12 with fail
    refine wp_region_held_drew (S := fun W => Bel w2 W) (by kernel_rfl) ((Bel.rfl_ w2).dr) (fun hS => ?_)
    refine rt_take (i := 0) (some 31) (.pointer (some ⟨g, 0, none⟩)) rfl rfl (by kernel_rfl) (by kernel_rfl) (by kernel_rfl) (fun _ _ _ h => h) (by kernel_rfl) hS (fun W hb => rl_pc rfl (by kernel_rfl) ((HPV2.out.keep hb).cell (i := 0) (v := .pointer (some ⟨g, 0, none⟩)) rfl)) ?_
    refine rt_take (i := 1) (some 32) (.pointer (some ⟨g, 0, none⟩)) rfl rfl (by kernel_rfl) (by kernel_rfl) (by kernel_rfl) (fun _ _ _ h => h) (by kernel_rfl) hS (fun W _ => by kernel_rfl) ?_
    refine rt_take (i := 2) (some 33) (.pointer (some ⟨g, 1, none⟩)) rfl rfl (by kernel_rfl) (by kernel_rfl) (by kernel_rfl) (fun _ _ _ h => h) (by kernel_rfl) hS (fun W _ => by kernel_rfl) ?_
    refine rt_take (i := 3) (some 34) (.pointer (some ⟨g, 4, none⟩)) rfl rfl (by kernel_rfl) (by kernel_rfl) (by kernel_rfl) (fun _ _ _ h => h) (by kernel_rfl) hS (fun W _ => by kernel_rfl) ?_
    refine rt_take (i := 4) (some 35) (.agg #[.int .i64 rk, .int .i64 rn, .slice Ar f.result.args.length cr]) rfl rfl (by kernel_rfl) (by kernel_rfl) (by kernel_rfl) (fun _ _ _ h => h) (by kernel_rfl) hS (fun W hb => run_loadRow 47 (.tmp 34) rfl elPE g 4 (by kernel_rfl) [.int .i64 rk, .int .i64 rn, .slice Ar f.result.args.length cr] (blkRange (HBK2.out.keep hb) 4 rfl) rfl (by kernel_rfl)) ?_
    refine rt_take (i := 5) (some 36) (.pointer (some ⟨g, 0, none⟩)) rfl rfl (by kernel_rfl) (by kernel_rfl) (by kernel_rfl) (fun _ _ _ h => h) (by kernel_rfl) hS (fun W hb => rl_pc rfl (by kernel_rfl) ((HPV2.out.keep hb).cell (i := 0) (v := .pointer (some ⟨g, 0, none⟩)) rfl)) ?_
    refine rt_take (i := 6) (some 37) (.pointer (some ⟨g, 0, none⟩)) rfl rfl (by kernel_rfl) (by kernel_rfl) (by kernel_rfl) (fun _ _ _ h => h) (by kernel_rfl) hS (fun W _ => by kernel_rfl) ?_
    refine rt_take (i := 7) (some 38) (.pointer (some ⟨g, 1, none⟩)) rfl rfl (by kernel_rfl) (by kernel_rfl) (by kernel_rfl) (fun _ _ _ h => h) (by kernel_rfl) hS (fun W _ => by kernel_rfl) ?_
    refine rt_take (i := 8) (some 39) (.pointer (some ⟨g, 2, none⟩)) rfl rfl (by kernel_rfl) (by kernel_rfl) (by kernel_rfl) (fun _ _ _ h => h) (by kernel_rfl) hS (fun W _ => by kernel_rfl) ?_
    refine rt_take (i := 9) (some 40) (.slice Az f.sizes.length cz) rfl rfl (by kernel_rfl) (by kernel_rfl) (by kernel_rfl) (fun _ _ _ h => h) (by kernel_rfl) hS (fun W hb => rl_is rfl (by kernel_rfl) ((HBK2.out.keep hb).cell (i := 2) (v := .slice Az f.sizes.length cz) rfl)) ?_
    refine rt_call (i := 10) (some 41) (by kernel_rfl) rfl rfl (by kernel_rfl) 66 #[.agg #[.int .i64 rk, .int .i64 rn, .slice Ar f.result.args.length cr], .slice Az f.sizes.length cz] (by kernel_rfl) (HEX.out _ (HB0.out.tr (HX2.out.tr hS))) ?_
    rintro e W9 ⟨rfl, hb⟩
    refine ⟨_, rfl, hS.tr hb, fun hS => ?_⟩
    refine rt_take (i := 11) (some 4) (.int .i64 ER) rfl rfl (by kernel_rfl) (by kernel_rfl) (by kernel_rfl) (fun _ _ _ h => h) (by kernel_rfl) hS (fun W _ => by kernel_rfl) ?_
    refine wpAnyH_done (by kernel_rfl) ?_ _
    try simp only [Act.put, List.setIfInBounds_toArray, List.set_cons_zero, List.set_cons_succ]
    have HX3 := Lib.hid (HX2.out.tr hS)
    clear hS
    go_wp2
    go_ret
    exact ⟨by rw [HR.out]; rfl, HX3.out⟩
end Go.Proofs.Ytgkpplbomciehaa
