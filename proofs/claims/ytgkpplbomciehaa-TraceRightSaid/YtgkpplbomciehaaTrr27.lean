/- One command: walked. The numbers of the functions' first commands, by the program: walked. Each lemma states its own conditions. -/
import Derived.Test.YtgkpplbomciehaaTrr26
namespace Go.Proofs.Ytgkpplbomciehaa
open Go.RowKit
set_option maxRecDepth 20000 in
set_option maxHeartbeats 16000000 in
theorem one_of (E : Env) (hp : Prog E.ps) (hfu : E.fuel ≤ 10000) (hfs : (∀ i, i < E.ps.length → E.fs.l[i]? = some (firstC E.ps i)) ∧ E.fs.l.length = E.ps.length) (N : Nat) (HALL : ∀ M, N = M + 1 → AllIs E M) : OneIs E N := by
  intro p x a T σ w val hA hL hx hN
  have HAL := Lib.hid HALL
  have HFS := Lib.hid hfs
  have HLL := Lib.hid hL
  have HN := Lib.hid hN
  have HPR := Lib.hid hp
  have HFU := Lib.hid hfu
  obtain ⟨F, z, hnx⟩ := hA.next
  obtain ⟨ha0, ha1, hfin, -⟩ := hnx.ok
  have hcn := PC.cnt_eq x
  have h40 : a ≤ 40 := by omega
  have HPX := Lib.hid hx
  obtain ⟨cs, hcs, rfl⟩ := hx
  have HB1 : Hid (Bel w (w.alloc (.cells cs.toArray CMT))) := Lib.hid ((Bel.rfl_ w).al _)
  have HX1 := Lib.hid (Blk.new w CMT cs.toArray)
  have HST1 : Hid (Stays E.w0.heap.size p.lo w (w.alloc (.cells cs.toArray CMT))) := Lib.hid (Stays.bel HB1.out hA.bel.size)
  have HSTEP := Lib.hid (step_is (hnx.keep HB1.out) hL hfu)
  have HNX := Lib.hid hnx
  obtain ⟨calls, hcl, hci⟩ := hnx.is
  have HCI := Lib.hid hci
  obtain ⟨vi, ve, va, vt, vz, hq, hvi, hve, hva, hvt, hvz⟩ := pcCells hcs
  obtain ⟨At, ct, rfl, -⟩ := sl_lit hvt
  obtain ⟨Al, cl, rfl, -⟩ := sl_lit hvz
  have HVE := Lib.hid hve
  have HVT := Lib.hid hvt
  have HVZ := Lib.hid hvz
  have HL12 : Hid (cs.length = 12) := Lib.hid (pcR.len hcs)
  have HC0 : Hid (cs.toArray[0]? = some (.int .i64 x.kind)) := Lib.hid (by rw [hq]; rfl)
  have HC1 : Hid (cs.toArray[1]? = some (.int .i64 x.var)) := Lib.hid (by rw [hq]; rfl)
  have HC6 : Hid (cs.toArray[6]? = some (.int .i64 x.expr.kind)) := Lib.hid (by rw [hq]; rfl)
  have HC7 : Hid (cs.toArray[7]? = some (.int .i64 x.expr.n)) := Lib.hid (by rw [hq]; rfl)
  have HC8 : Hid (cs.toArray[8]? = some ve) := Lib.hid (by rw [hq]; rfl)
  have HC10 : Hid (cs.toArray[10]? = some (.slice At x.thn.length ct)) := Lib.hid (by rw [hq]; rfl)
  have HC11 : Hid (cs.toArray[11]? = some (.slice Al x.els.length cl)) := Lib.hid (by rw [hq]; rfl)
  have HTH := Lib.hid hnx.ok.thn
  have HEL := Lib.hid hnx.ok.els
  have hk1 := hci.k1
  have hk7 := hci.k7
  clear HALL hfs hL hN hp hfu hA hnx hcs hq hvi hve hva hvt hvz hci hfin
  go_enter Try.func147, Try.ntmps147
  go_upto_region 1 with fail
  generalize hW1 : w.alloc (.cells cs.toArray CMT) = W1 at *
  clear hW1
  generalize w.heap.size = Q at *
  go_wp2_with fail
  refine HSTEP.out.mono ?_
  rintro y W2 (⟨hs, rfl, hres⟩ | ⟨hs, rfl, hr2, hf2, hs2⟩)
  · have HRES := Lib.hid (Res.after (Reach.rfl_ σ) HST1.out hres)
    clear hres hs HSTEP
    go_wp2
    go_ret
    exact ⟨false, rfl, HRES.out⟩
  obtain ⟨M, hM⟩ : ∃ M, N = M + 1 := by
    have h1 := HNX.out.good.s1
    have h2 := HN.out
    exact ⟨N - 1, by omega⟩
  have HALM := Lib.hid (HAL.out M hM)
  have HNM : Hid (E.fuel - (σ.steps + 1) ≤ M) := Lib.hid (by have := HN.out; omega)
  have HR2 := Lib.hid hr2
  have HF2 := Lib.hid hf2
  have HS := Lib.hid hs
  have HX2 := Lib.hid (HX1.out.kept hs2.j HX1.out.lt (by decide))
  have HST2 := Lib.hid (HST1.out.tr hs2)
  have HB2 := Lib.hid (RnM.bel hr2)
  have HOL : Hid ((σ.on F p.rest a T).out.length ≤ 71000) := Lib.hid (by have := (HNX.out.good.outs HFU.out).1; unfold Mc.on; simp; omega)
  clear hr2 hf2 hs hs2 hM HSTEP HX1 HST1 HB1 HAL HN
  have hw1 : IntKind.i64.wrap (a + 1) = a + 1 := by rw [IntKind.wrap_i64]; omega
  by_cases e3 : x.kind = 3
  · have c0 := HX2.out.cell (i := 0) (v := .int .i64 3) (by rw [HC0.out, e3])
    have HE := Lib.hid e3
    have HCALL := Lib.hid (call_of E HPR.out HFU.out M HALM.out HFS.out p x a T σ w W2 F z (.agg cs.toArray) HNX.out HS.out e3 HR2.out HF2.out HLL.out HPX.out HNM.out)
    clear e3
    go_upto_region 5 with fail
    refine wl_region ?_
    try dsimp only [List.append]
    refine wl_do (some 20) (.pointer (some ⟨E.r, 0, none⟩)) rfl (by kernel_rfl) (by kernel_rfl) ?_
    refine wl_do (some 21) (.pointer (some ⟨p.fb, 0, none⟩)) rfl (by kernel_rfl) (by kernel_rfl) ?_
    refine wl_do (some 22) (.agg cs.toArray) rfl (by kernel_rfl) (run_loadRow 120 (.tmp 6) rfl elPC Q 0 (by kernel_rfl) cs (blkRange HX2.out 0 (by rw [Nat.zero_add]; simp)) HL12.out (by kernel_rfl)) ?_
    refine wl_call (some 23) rfl (by kernel_rfl) 159 #[.pointer (some ⟨E.r, 0, none⟩), .pointer (some ⟨p.fb, 0, none⟩), .agg cs.toArray] (by kernel_rfl) (HCALL.out) ?_
    rintro y W3 ⟨b1, rfl, hres⟩
    refine ⟨_, rfl, ?_⟩
    have HRES := Lib.hid (Res.after (Reach.rfl_ σ) HST2.out hres)
    clear hres
    refine wl_do (some 8) (.bool b1) rfl (by kernel_rfl) (by kernel_rfl) ?_
    refine wl_nil ?_
    try simp only [Act.put, List.setIfInBounds_toArray, List.set_cons_zero, List.set_cons_succ]
    go_wp2
    go_ret
    exact ⟨b1, rfl, HRES.out⟩
  by_cases e4 : x.kind = 4
  · have c0 := HX2.out.cell (i := 0) (v := .int .i64 4) (by rw [HC0.out, e4])
    have HD := Lib.hid (Mc.do_read (ps := E.ps) HNX.out.good.fr HNX.out.tk HS.out e4)
    obtain ⟨hv0, hv1⟩ := HCI.out.var (by omega)
    have hvt : x.var.toNat < F.vars.length := by have := HNX.out.fits.1; omega
    have hvl : F.vars[x.var.toNat]? = some (F.vars.getD x.var.toNat []) := by rw [List.getD_eq_getElem?_getD, List.getElem?_eq_getElem hvt]; rfl
    have HRD := Lib.hid (read_any (x := x) HR2.out (by have := HOL.out; omega) HF2.out HLL.out (HPX.out.keep HB2.out) hv0 hvl (by have := HNX.out.fits.len hv0 hv1 (HCI.out.one (by omega) (by omega)); omega))
    clear e4 e3 hv0 hv1 hvt hvl
    go_upto_region 7 with fail
    refine wl_region ?_
    try dsimp only [List.append]
    refine wl_do (some 26) (.pointer (some ⟨E.r, 0, none⟩)) rfl (by kernel_rfl) (by kernel_rfl) ?_
    refine wl_do (some 27) (.pointer (some ⟨p.fb, 0, none⟩)) rfl (by kernel_rfl) (by kernel_rfl) ?_
    refine wl_do (some 28) (.agg cs.toArray) rfl (by kernel_rfl) (run_loadRow 120 (.tmp 6) rfl elPC Q 0 (by kernel_rfl) cs (blkRange HX2.out 0 (by rw [Nat.zero_add]; simp)) HL12.out (by kernel_rfl)) ?_
    refine wl_call (some 29) rfl (by kernel_rfl) 160 #[.pointer (some ⟨E.r, 0, none⟩), .pointer (some ⟨p.fb, 0, none⟩), .agg cs.toArray] (by kernel_rfl) (HRD.out) ?_
    rintro y W3 ⟨rfl, hr3, hf3, hs3⟩
    refine ⟨_, rfl, ?_⟩
    have HGN := Lib.hid (HNX.out.good.next HPR.out HD.out (F' := { F with at_ := a, tasks := T, vars := setC F.vars x.var 0 (σ.inp.headD 0) }) (rest' := p.rest) rfl HNX.out.good.on)
    have HA3 : Hid (AtS E p T _ W3) := Lib.hid ⟨_, HGN.out.1, HNX.out.num, HNX.out.fn, rfl, hf3, by rw [← HNX.out.num] at hr3; exact hr3⟩
    have HST3 := Lib.hid (HST2.out.tr hs3)
    clear hr3 hf3 hs3
    refine wl_nil ?_
    try simp only [Act.put, List.setIfInBounds_toArray, List.set_cons_zero, List.set_cons_succ]
    go_wp2
    go_ret
    exact ⟨true, rfl, Res.on HGN.out.2 HST3.out HA3.out⟩
  by_cases e2 : x.kind = 2
  · have c0 := HX2.out.cell (i := 0) (v := .int .i64 2) (by rw [HC0.out, e2])
    have HD := Lib.hid (Mc.do_put (ps := E.ps) HNX.out.good.fr HNX.out.tk HS.out e2)
    obtain ⟨hv0, hv1⟩ := HCI.out.var (by omega)
    have hvt : x.var.toNat < F.vars.length := by have := HNX.out.fits.1; omega
    have hvl : F.vars[x.var.toNat]? = some (F.vars.getD x.var.toNat []) := by rw [List.getD_eq_getElem?_getD, List.getElem?_eq_getElem hvt]; rfl
    have HPT := Lib.hid (put_any (x := x) HR2.out (by have := HOL.out; omega) HF2.out HLL.out HNX.out.fits (HPX.out.keep HB2.out) (PE.err_ok (HCI.out.index e2)) (HNX.out.expr e3 e4) hv0 hv1)
    clear e2 e3 e4 hv0 hv1 hvt hvl
    go_upto_region 10 with fail
    refine wl_region ?_
    try dsimp only [List.append]
    refine wl_do (some 32) (.pointer (some ⟨E.r, 0, none⟩)) rfl (by kernel_rfl) (by kernel_rfl) ?_
    refine wl_do (some 33) (.pointer (some ⟨p.fb, 0, none⟩)) rfl (by kernel_rfl) (by kernel_rfl) ?_
    refine wl_do (some 34) (.agg cs.toArray) rfl (by kernel_rfl) (run_loadRow 120 (.tmp 6) rfl elPC Q 0 (by kernel_rfl) cs (blkRange HX2.out 0 (by rw [Nat.zero_add]; simp)) HL12.out (by kernel_rfl)) ?_
    refine wl_call (some 35) rfl (by kernel_rfl) 161 #[.pointer (some ⟨E.r, 0, none⟩), .pointer (some ⟨p.fb, 0, none⟩), .agg cs.toArray] (by kernel_rfl) (HPT.out) ?_
    rintro y W3 (⟨hh, rfl, hr3, hs3⟩ | ⟨hh, rfl, hr3, hf3, hs3⟩)
    · refine ⟨_, rfl, ?_⟩
      have hd := HD.out
      rw [if_neg hh] at hd
      have HRES : Hid (Res E p T σ w false W3) := Lib.hid (Res.over (d := p.rest.length + 1) (Reach.one HNX.out.good.on hd) (HST2.out.tr hs3) rfl (by unfold RunM Mc.end_; dsimp only; rw [show (σ.on F p.rest a T).num = F.num from rfl, HNX.out.num]; exact hr3))
      clear hd hr3 hs3 hh
      refine wl_do (some 8) (.bool false) rfl (by kernel_rfl) (by kernel_rfl) ?_
      refine wl_nil ?_
      try simp only [Act.put, List.setIfInBounds_toArray, List.set_cons_zero, List.set_cons_succ]
      go_wp2
      go_ret
      exact ⟨false, rfl, HRES.out⟩
    · refine ⟨_, rfl, ?_⟩
      have hd := HD.out
      rw [if_pos hh] at hd
      have HGN := Lib.hid (HNX.out.good.next HPR.out hd (F' := { F with at_ := a, tasks := T, vars := setC F.vars x.var (x.index.val F.vars).1 (x.expr.val F.vars).1 }) (rest' := p.rest) rfl HNX.out.good.on)
      have HA3 : Hid (AtS E p T _ W3) := Lib.hid ⟨_, HGN.out.1, HNX.out.num, HNX.out.fn, rfl, hf3, by rw [← HNX.out.num] at hr3; exact hr3⟩
      have HST3 := Lib.hid (HST2.out.tr hs3)
      clear hd hr3 hf3 hs3 hh
      refine wl_do (some 8) (.bool true) rfl (by kernel_rfl) (by kernel_rfl) ?_
      refine wl_nil ?_
      try simp only [Act.put, List.setIfInBounds_toArray, List.set_cons_zero, List.set_cons_succ]
      go_wp2
      go_ret
      exact ⟨true, rfl, Res.on HGN.out.2 HST3.out HA3.out⟩
  have c0 := HX2.out.cell (i := 0) HC0.out
  have d3 : (x.kind == 3) = false := by rw [beq_eq_false_iff_ne]; exact e3
  have d4 : (x.kind == 4) = false := by rw [beq_eq_false_iff_ne]; exact e4
  have d2 : (x.kind == 2) = false := by rw [beq_eq_false_iff_ne]; exact e2
  have c6 := HX2.out.cell (i := 6) HC6.out
  have c7 := HX2.out.cell (i := 7) HC7.out
  have c8 := HX2.out.cell (i := 8) HC8.out
  have HVAL := Lib.hid (value_is (val := .agg #[.int .i64 x.expr.kind, .int .i64 x.expr.n, ve]) HR2.out (by have := HOL.out; omega) HF2.out HNX.out.num HNX.out.fits (HNX.out.expr e3 e4) ⟨ve, rfl, HVE.out.keep HB2.out⟩)
  have E3 := Lib.hid e3
  have E4 := Lib.hid e4
  have E2 := Lib.hid e2
  clear e3 e4 e2
  go_wp2_with fail
  refine HVAL.out.mono ?_
  rintro y W3 (⟨hv, rfl, hb⟩ | ⟨hv, rfl, hr3, hs3⟩)
  rotate_left
  · have HRES : Hid (Res E p T σ w false W3) := Lib.hid (Res.over (Reach.one HNX.out.good.on (Mc.do_fail HNX.out.good.fr HNX.out.tk HS.out E2.out E3.out E4.out hv)) (HST2.out.tr hs3) rfl hr3)
    clear hv hr3 hs3 HVAL c0 c6 c7 c8
    go_wp2
    go_ret
    exact ⟨false, rfl, HRES.out⟩
  have HV := Lib.hid hv
  have HR3 := Lib.hid (RnM.keep HR2.out hb)
  have HF3 := Lib.hid (HF2.out.keep hb)
  have HX3 := Lib.hid (HX2.out.keep hb)
  have HST3 := Lib.hid (HST2.out.tr (Stays.bel hb HB2.out.size))
  have HB3 := Lib.hid (RnM.bel HR3.out)
  clear hv hb HVAL c0 c6 c7 c8 HR2 HF2 HX2 HST2 d3 d4 d2
  by_cases e1 : x.kind = 1
  · have c0 := HX3.out.cell (i := 0) (v := .int .i64 1) (by rw [HC0.out, e1])
    have c1 := HX3.out.cell (i := 1) HC1.out
    have HD := Lib.hid (Mc.do_set (ps := E.ps) HNX.out.good.fr HNX.out.tk HS.out e1 HV.out)
    obtain ⟨hv0, hv1⟩ := HCI.out.var (by omega)
    have hvt : x.var.toNat < F.vars.length := by have := HNX.out.fits.1; omega
    have hvl : F.vars[x.var.toNat]? = some (F.vars.getD x.var.toNat []) := by rw [List.getD_eq_getElem?_getD, List.getElem?_eq_getElem hvt]; rfl
    have HWR := Lib.hid (write_any (i := 0) HR3.out (by have := HOL.out; omega) HF3.out HLL.out hv0 hvl (Int.le_refl 0) (by have := HNX.out.fits.len hv0 hv1 (HCI.out.one (by omega) (by omega)); omega) a (x.expr.val F.vars).1)
    clear e1 hv0 hv1 hvt hvl
    generalize hrv : (x.expr.val F.vars).1 = rv at *
    clear hrv
    go_wp2_with fail
    refine HWR.out.mono ?_
    rintro y W4 ⟨rfl, hr4, hf4, hs4⟩
    have HGN := Lib.hid (HNX.out.good.next HPR.out HD.out (F' := { F with at_ := a, tasks := T, vars := setC F.vars x.var 0 rv }) (rest' := p.rest) rfl HNX.out.good.on)
    have HA4 : Hid (AtS E p T _ W4) := Lib.hid ⟨_, HGN.out.1, HNX.out.num, HNX.out.fn, rfl, hf4, by rw [← HNX.out.num] at hr4; exact hr4⟩
    have HST4 := Lib.hid (HST3.out.tr hs4)
    clear hr4 hf4 hs4 c0 c1 HWR
    go_wp2
    go_ret
    exact ⟨true, rfl, Res.on HGN.out.2 HST4.out HA4.out⟩
  by_cases e5 : x.kind = 5
  · have c0 := HX3.out.cell (i := 0) (v := .int .i64 5) (by rw [HC0.out, e5])
    have f0 := HF3.out.c01.1
    have HD := Lib.hid (Mc.do_print (ps := E.ps) HNX.out.good.fr HNX.out.tk HS.out e5 HV.out)
    have HTL := Lib.hid (tell_any E.w0 E.ps E.fuel E.fs E.L E.r _ _ _ _ _ 4 p.num a 0 0 (x.expr.val F.vars).1 _ HR3.out (by have := HOL.out; omega))
    clear e5
    generalize hrv : (x.expr.val F.vars).1 = rv at *
    clear hrv
    go_wp2_with fail
    refine HTL.out.mono ?_
    rintro y W4 ⟨rfl, hr4, hk4⟩
    have HGN := Lib.hid (HNX.out.good.next HPR.out HD.out (F' := { F with at_ := a, tasks := T }) (rest' := p.rest) rfl HNX.out.good.on)
    have HA4 : Hid (AtS E p T _ W4) := Lib.hid ⟨_, HGN.out.1, HNX.out.num, HNX.out.fn, rfl, HF3.out.kept hk4 (Nat.le_refl _), by rw [← HNX.out.num] at hr4; exact hr4⟩
    have HST4 := Lib.hid (HST3.out.tr (Stays.told hk4 (Nat.le_trans HF3.out.1 (by obtain ⟨-, v, hB, -⟩ := HF3.out; exact Nat.le_of_lt hB.lt))))
    clear hr4 hk4 c0 f0 HTL
    go_wp2
    go_ret
    exact ⟨true, rfl, Res.on HGN.out.2 HST4.out HA4.out⟩
  by_cases e6 : x.kind = 6
  · have c0 := HX3.out.cell (i := 0) (v := .int .i64 6) (by rw [HC0.out, e6])
    have HD := Lib.hid (Mc.do_if (ps := E.ps) HNX.out.good.fr HNX.out.tk HS.out e6 HV.out)
    clear e6
    generalize hrv : (x.expr.val F.vars).1 = rv at *
    clear hrv
    by_cases hn : rv = 0
    · subst hn
      have hd := HD.out
      rw [if_neg (by decide)] at hd
      have HGN := Lib.hid (HNX.out.good.next HPR.out hd (F' := { F with at_ := a, tasks := pushT x.els (a + 1 + cntP x.thn) ++ T }) (rest' := p.rest) rfl HNX.out.good.on)
      have HA3 : Hid (∀ W, Bel W3 W → AtS E p (pushT x.els (a + 1 + cntP x.thn) ++ T) (σ.on F p.rest a (pushT x.els (a + 1 + cntP x.thn) ++ T)) W) := Lib.hid (fun W hb => ⟨_, HGN.out.1, HNX.out.num, HNX.out.fn, rfl, HF3.out.keep hb, RnM.keep HR3.out hb⟩)
      have hct : cntP x.thn ≤ 1000 := by omega
      clear hd
      go_upto_region 22 with fail
      refine wp_region_held_drew (S := fun W => W.cell? ⟨Q, 10, none⟩ = some (.slice At x.thn.length ct) ∧ W.cell? ⟨Q, 11, none⟩ = some (.slice Al x.els.length cl)) (by kernel_rfl) ⟨(HX3.out.keep ((Bel.rfl_ W3).dr)).cell HC10.out, (HX3.out.keep ((Bel.rfl_ W3).dr)).cell HC11.out⟩ (fun hS => ?_)
      refine rt_take (i := 0) (some 79) (.pointer (some ⟨E.r, 0, none⟩)) rfl rfl (by kernel_rfl) (by kernel_rfl) (by kernel_rfl) (fun _ _ _ h => h) (by kernel_rfl) hS (fun W _ => by kernel_rfl) ?_
      refine rt_take (i := 1) (some 80) (.pointer (some ⟨p.fb, 0, none⟩)) rfl rfl (by kernel_rfl) (by kernel_rfl) (by kernel_rfl) (fun _ _ _ h => h) (by kernel_rfl) hS (fun W _ => by kernel_rfl) ?_
      refine rt_take (i := 2) (some 81) (.pointer (some ⟨Q, 11, none⟩)) rfl rfl (by kernel_rfl) (by kernel_rfl) (by kernel_rfl) (fun _ _ _ h => h) (by kernel_rfl) hS (fun W _ => by kernel_rfl) ?_
      refine rt_take (i := 3) (some 82) (.slice Al x.els.length cl) rfl rfl (by kernel_rfl) (by kernel_rfl) (by kernel_rfl) (fun _ _ _ h => h) (by kernel_rfl) hS (fun W hb => rl_cs rfl (by kernel_rfl) hb.2) ?_
      refine rt_take (i := 4) (some 83) (.int .i64 a) rfl rfl (by kernel_rfl) (by kernel_rfl) (by kernel_rfl) (fun _ _ _ h => h) (by kernel_rfl) hS (fun W _ => by kernel_rfl) ?_
      refine rt_take (i := 5) (some 84) (.int .i64 (a + 1)) rfl rfl (by kernel_rfl) (by kernel_rfl) (by kernel_rfl) (fun _ _ _ h => h) (by kernel_rfl) hS (fun W _ => rb_addI (k := a) (l := 1) rfl (by kernel_rfl) (by kernel_rfl) (by omega) (by omega) (by omega) (by omega) rfl) ?_
      refine rt_take (i := 6) (some 85) (.pointer (some ⟨Q, 10, none⟩)) rfl rfl (by kernel_rfl) (by kernel_rfl) (by kernel_rfl) (fun _ _ _ h => h) (by kernel_rfl) hS (fun W _ => by kernel_rfl) ?_
      refine rt_take (i := 7) (some 86) (.slice At x.thn.length ct) rfl rfl (by kernel_rfl) (by kernel_rfl) (by kernel_rfl) (fun _ _ _ h => h) (by kernel_rfl) hS (fun W hb => rl_cs rfl (by kernel_rfl) hb.1) ?_
      refine rt_call (i := 8) (some 87) (by kernel_rfl) rfl rfl (by kernel_rfl) 143 #[.slice At x.thn.length ct] (by kernel_rfl) (many_any _ _ _ (HVT.out.keep (HB3.out.tr ((Bel.rfl_ W3).dr))) HTH.out.2.2.1 hct) ?_
      rintro y2 W9 ⟨rfl, hb9⟩
      have HB9 := Lib.hid (((Bel.rfl_ W3).dr).tr hb9)
      have HX9 := Lib.hid (HX3.out.keep HB9.out)
      refine ⟨_, rfl, ⟨HX9.out.cell HC10.out, HX9.out.cell HC11.out⟩, fun hS => ?_⟩
      clear hb9
      refine rt_take (i := 9) (some 88) (.int .i64 (a + 1 + cntP x.thn)) rfl rfl (by kernel_rfl) (by kernel_rfl) (by kernel_rfl) (fun _ _ _ h => h) (by kernel_rfl) hS (fun W _ => rb_addI (k := (a + 1)) (l := (cntP x.thn)) rfl (by kernel_rfl) (by kernel_rfl) (by omega) (by omega) (by omega) (by omega) rfl) ?_
      refine rt_call (i := 10) (some 89) (by kernel_rfl) rfl rfl (by kernel_rfl) 114 #[.pointer (some ⟨E.r, 0, none⟩), .pointer (some ⟨p.fb, 0, none⟩), .slice Al x.els.length cl, .int .i64 (a + 1 + cntP x.thn)] (by kernel_rfl) (HALM.out p x.els (a + 1 + cntP x.thn) T _ W9 _ (HA3.out W9 HB9.out) HLL.out HVZ.out HNM.out (by omega) (by omega)) ?_
      rintro y3 W10 ⟨b1, rfl, hres⟩
      obtain ⟨σ3, h1, h2, h3, h4⟩ := id hres
      have HX10 := HX9.out.kept h2.j HX9.out.lt (by decide)
      refine ⟨_, rfl, ⟨HX10.cell HC10.out, HX10.cell HC11.out⟩, fun hS => ?_⟩
      clear h1 h2 h3 h4 HX10
      refine rt_take (i := 11) (some 8) (.bool b1) rfl rfl (by kernel_rfl) (by kernel_rfl) (by kernel_rfl) (fun _ _ _ h => h) (by kernel_rfl) hS (fun W _ => by kernel_rfl) ?_
      refine wpAnyH_done (by kernel_rfl) ?_ _
      try simp only [Act.put, List.setIfInBounds_toArray, List.set_cons_zero, List.set_cons_succ]
      have HRES : Hid (Res E p T σ w b1 W10) := Lib.hid (Res.after HGN.out.2 (HST3.out.tr (Stays.bel HB9.out HB3.out.size)) hres)
      clear hres hS c0
      go_wp2
      go_ret
      exact ⟨b1, rfl, HRES.out⟩
    have hdn : (rv != 0) = true := by simpa using hn
    have hd := HD.out
    rw [if_pos hn] at hd
    have HGN := Lib.hid (HNX.out.good.next HPR.out hd (F' := { F with at_ := a, tasks := pushT x.thn (a + 1) ++ T }) (rest' := p.rest) rfl HNX.out.good.on)
    have HA3 : Hid (AtS E p (pushT x.thn (a + 1) ++ T) (σ.on F p.rest a (pushT x.thn (a + 1) ++ T)) W3) := Lib.hid ⟨_, HGN.out.1, HNX.out.num, HNX.out.fn, rfl, HF3.out, HR3.out⟩
    have c10 := HX3.out.cell (i := 10) HC10.out
    clear hd hn
    go_wp2_with fail
    refine (HALM.out p x.thn (a + 1) T _ W3 _ HA3.out HLL.out HVT.out HNM.out (by omega) (by omega)).mono ?_
    rintro y W4 ⟨b1, rfl, hres⟩
    have HRES : Hid (Res E p T σ w b1 W4) := Lib.hid (Res.after HGN.out.2 HST3.out hres)
    clear hres c0 c10
    go_wp2
    go_ret
    exact ⟨b1, rfl, HRES.out⟩
  have e7 : x.kind = 7 := by have := E2.out; have := E3.out; have := E4.out; omega
  have c0 := HX3.out.cell (i := 0) (v := .int .i64 7) (by rw [HC0.out, e7])
  have HD := Lib.hid (Mc.do_while (ps := E.ps) HNX.out.good.fr HNX.out.tk HS.out e7 HV.out)
  have HLOOP := Lib.hid (fun T2 => loop_of E HPR.out HFU.out M HALM.out p x a (x.expr.val F.vars).1 T (σ.on F p.rest a T2) W3 (.agg cs.toArray))
  have HE7 := Lib.hid e7
  clear e7 e1 e5 e6
  generalize hrv : (x.expr.val F.vars).1 = rv at *
  clear hrv
  have HGN := Lib.hid (HNX.out.good.next HPR.out HD.out (F' := { F with at_ := a, tasks := loopT x a rv T }) (rest' := p.rest) rfl HNX.out.good.on)
  have HA3 : Hid (AtS E p (loopT x a rv T) (σ.on F p.rest a (loopT x a rv T)) W3) := Lib.hid ⟨_, HGN.out.1, HNX.out.num, HNX.out.fn, rfl, HF3.out, HR3.out⟩
  have HLP2 := Lib.hid (HLOOP.out _ HA3.out HE7.out ha0 h40 HLL.out HPX.out HNM.out)
  have HX2 := HX3
  clear HLOOP HX3
  go_upto_region 24 with fail
  refine wl_region ?_
  try dsimp only [List.append]
  refine wl_do (some 92) (.pointer (some ⟨E.r, 0, none⟩)) rfl (by kernel_rfl) (by kernel_rfl) ?_
  refine wl_do (some 93) (.pointer (some ⟨p.fb, 0, none⟩)) rfl (by kernel_rfl) (by kernel_rfl) ?_
  refine wl_do (some 94) (.agg cs.toArray) rfl (by kernel_rfl) (run_loadRow 120 (.tmp 6) rfl elPC Q 0 (by kernel_rfl) cs (blkRange HX2.out 0 (by rw [Nat.zero_add]; simp)) HL12.out (by kernel_rfl)) ?_
  refine wl_do (some 95) (.int .i64 a) rfl (by kernel_rfl) (by kernel_rfl) ?_
  refine wl_do (some 96) (.int .i64 rv) rfl (by kernel_rfl) (by kernel_rfl) ?_
  refine wl_call (some 97) rfl (by kernel_rfl) 164 #[.pointer (some ⟨E.r, 0, none⟩), .pointer (some ⟨p.fb, 0, none⟩), .agg cs.toArray, .int .i64 a, .int .i64 rv] (by kernel_rfl) (HLP2.out) ?_
  rintro y W4 ⟨b1, rfl, hres⟩
  refine ⟨_, rfl, ?_⟩
  have HRES := Lib.hid (Res.after HGN.out.2 HST3.out hres)
  clear hres
  refine wl_do (some 8) (.bool b1) rfl (by kernel_rfl) (by kernel_rfl) ?_
  refine wl_nil ?_
  try simp only [Act.put, List.setIfInBounds_toArray, List.set_cons_zero, List.set_cons_succ]
  go_wp2
  go_ret
  exact ⟨b1, rfl, HRES.out⟩
/-- lists of commands run as the machine does -/
theorem all_any (E : Env) (hp : Prog E.ps) (hfu : E.fuel ≤ 10000) (hfs : (∀ i, i < E.ps.length → E.fs.l[i]? = some (firstC E.ps i)) ∧ E.fs.l.length = E.ps.length) : ∀ N : Nat, AllIs E N
  | 0 => all_of E hp 0 (one_of E hp hfu hfs 0 (fun M h => by cases h))
  | N + 1 => all_of E hp (N + 1) (one_of E hp hfu hfs (N + 1) (fun M h => by injection h with h; subst h; exact all_any E hp hfu hfs N))
def firsts (ps : List PF) (n : Nat) : List Int := (List.range n).map (firstC ps)
theorem firsts_succ (ps : List PF) (n : Nat) : firsts ps (n + 1) = firsts ps n ++ [firstC ps n] := by unfold firsts; rw [List.range_succ, List.map_append]; rfl
theorem firsts_len (ps : List PF) (n : Nat) : (firsts ps n).length = n := by unfold firsts; simp
theorem firsts_at (ps : List PF) {i n : Nat} (h : i < n) : (firsts ps n)[i]? = some (firstC ps i) := by unfold firsts; rw [List.getElem?_map, List.getElem?_range h]; rfl
theorem firstC_succ {ps : List PF} {j : Nat} {g : PF} (h : ps[j]? = some g) : firstC ps (j + 1) = firstC ps j + cntP g.cmds := by
  unfold firstC
  rw [take_snoc h, List.map_append, List.sum_append]
  simp
set_option maxRecDepth 20000 in
set_option maxHeartbeats 8000000 in
theorem first_any (ps : List PF) (hp : Prog ps) (v : Value) (w : World) (h : Sl pfR w v ps) :
    Calls Try.prog 99 #[.agg #[v]] w fun r w' => ∃ u, r = .returned u ∧ w'.ownsRow w.heap.size INT 1 u ps.length ((firsts ps ps.length).map (Value.int .i64)) ∧ Bel w w' := by
  have HSL := Lib.hid h
  have HPR := Lib.hid hp
  have h6 := hp.six
  obtain ⟨A, c, rfl, hll⟩ := sl_lit h
  have HB1 : Hid (Bel w (w.alloc (.cells #[.slice A ps.length c] 40))) := Lib.hid ((Bel.rfl_ w).al _)
  have HO0 : Hid ((w.alloc (.cells #[.slice A ps.length c] 40)).ownsRow w.heap.size INT 1 (.slice none 0 0) 0 ((firsts ps 0).map (Value.int .i64))) := Lib.hid (World.ownsRow_nil _ _ _ _)
  clear h hp
  go_enter Try.func99, Try.ntmps99
  go_wp2
  generalize hW1 : w.alloc (.cells #[.slice A ps.length c] 40) = W1 at *
  clear hW1
  go_loopw [3, 4, 10] (fun v n i wr => ∃ j : Nat, i = .int .i64 j ∧ n = .int .i64 (firstC ps j) ∧ j ≤ ps.length ∧ Hid (wr.ownsRow w.heap.size INT 1 v j ((firsts ps j).map (Value.int .i64))) ∧ Hid (Bel w wr)) (fun _ _ i _ => ps.length - (intOf i).toNat)
  case atStart => exact ⟨0, rfl, rfl, Nat.zero_le _, HO0, HB1⟩
  case round =>
    obtain ⟨j, rfl, rfl, hj, HO, HB⟩ := hrel
    obtain ⟨WO, hWO⟩ : ∃ W, W = wr := ⟨_, rfl⟩
    subst hWO
    clear HO0 HB1
    by_cases hlt : j < ps.length
    rotate_left
    · have hdd : decide ((j : Int) < ps.length) = false := decide_eq_false (by omega)
      have hjl : j = ps.length := by omega
      subst hjl
      go_wp2
      go_ret
      exact ⟨_, rfl, HO.out, HB.out⟩
    have hdd : decide ((j : Int) < ps.length) = true := decide_eq_true (by omega)
    obtain ⟨g, hg⟩ : ∃ g, ps[j]? = some g := ⟨_, List.getElem?_eq_getElem hlt⟩
    obtain ⟨b, o, fcs, rfl, hfc, hfa⟩ := HSL.out.elem hg
    have HF : Hid (PFR w g fcs) := Lib.hid hfc
    have HFA := Lib.hid (hfa.keep HB.out)
    have HCM := Lib.hid (HPR.out.cmds hg)
    have HFS := Lib.hid (firstC_succ hg)
    have hn0 : 0 ≤ firstC ps j := HCM.out.1
    have hn1 : firstC ps j ≤ 40 := by have := HCM.out.2.1; omega
    have i0 : (0 : Int) ≤ j := by omega
    have i1 : (j : Int) < ps.length := by omega
    clear hfc hfa hg
    go_upto_region 6 with (refine copyPF (.tmp 12) (.tmp 6) (.tmp 13) rfl rfl rfl rfl rfl rfl b (o + j * 6) (by exact rfl) fcs HFA.out HF.out (by exact rfl) (by exact rfl) ?_)
    have HB2 := Lib.hid (HB.out.al (.cells fcs.toArray FNT))
    have HK := Lib.hid (Blk.new WO FNT fcs.toArray)
    have HO2 := Lib.hid (((Bel.rfl_ WO).al (.cells fcs.toArray FNT)).own HO.out)
    obtain ⟨vz, vc, vr, hq, -, hsc, -⟩ := HF.out
    obtain ⟨Ac, cc, rfl, hlc⟩ := sl_lit hsc
    have HSC := Lib.hid hsc
    have HC2 : Hid (fcs.toArray[2]? = some (.slice Ac g.cmds.length cc)) := Lib.hid (by rw [hq]; rfl)
    clear hsc hq HFA HF
    generalize hW2 : WO.alloc _ = W2 at *
    clear hW2
    generalize WO.heap.size = K at *
    have HJL : Hid ((firsts ps j).length = j) := Lib.hid (firsts_len ps j)
    go_wp2_with (at_builtin; go_loud (refine wpl_app W2 rfl (.tmp 14) (.tmp 16) 23 rfl w.heap.size elI u3 j _ rfl HO2.out [.int .i64 (firstC ps j)] rfl rfl (by simp [Value.oneCell']) (by simp only [maxLen]; omega) (by omega) HB2.out.size ?_); intro g2 cap w4 hown4 hg4 _; have HO4 := Lib.hid hown4; have HG4 := Lib.hid hg4; have c2 := (HK.out.grown hg4 (HK.out.ne_own HO2.out (by decide))).cell HC2.out; clear hown4 hg4)
    have HB4 : Hid (Bel w w4) := Lib.hid (Below.grown HB2.out HG4.out HB2.out.size (fun k hk => (HO2.out.lt k hk).1))
    refine (many_any g.cmds _ _ (HSC.out.keep HB4.out) HCM.out.2.2.1 (by have := HCM.out.2.1; omega)).mono ?_
    rintro y w5 ⟨rfl, hb5⟩
    have HB5 := Lib.hid (HB4.out.tr hb5)
    have HO5 := Lib.hid (hb5.own HO4.out)
    have hct : cntP g.cmds ≤ 1000 := by have := HCM.out.2.1; omega
    clear hb5 c2
    go_wp2
    go_roundw
    case rel =>
      refine ⟨j + 1, by go_num, ?_, by omega, Lib.hid ?_, HB5⟩
      · rw [HFS.out]
      · rw [firsts_succ, List.map_append]
        exact HO5.out
    case measure => simp [intOf]; omega
end Go.Proofs.Ytgkpplbomciehaa
