/- What is ahead of a time tells all that there is then: walked. Each lemma states its own conditions. -/
import Derived.Test.YtgkpplbomciehaaSah45
namespace Go.Proofs.Ytgkpplbomciehaa
open Go.RowKit
/-- there is a frame at any time -/
theorem evs_ne {ps : List PF} : ∀ {l : List Ev} {s : Rp}, Fits_ ps l s → s.frs ≠ [] → (Rp.evs ps l s).frs ≠ []
  | [], _, _, h => h
  | e :: l, s, hf, h => by
    refine evs_ne (l := l) hf.2 ?_
    unfold Rp.ev
    split
    · simp
    split
    · rename_i h6
      have h1 := (hf.1.2.1 h6).1
      intro h2
      have h3 := congrArg List.length h2
      simp at h3
      omega
    split
    · split
      · simp
      · exact h
    · exact h
/-- what was written last is there -/
theorem ev_write {ps : List PF} {s : Rp} {e : Ev} (hf : Fit ps s e) (h2 : e.kind = 2) : ∃ f l, (s.ev ps e).frs.getLast? = some f ∧ f.num = e.frame ∧ 0 ≤ e.var ∧ f.vars[e.var.toNat]? = some l ∧ 0 ≤ e.index ∧ l[e.index.toNat]? = some e.value := by
  obtain ⟨f, l, hl, hn, v0, hv, i0, i1⟩ := hf.2.2.1 h2
  have hs : s.ev ps e = ⟨s.frs.dropLast ++ [{ f with vars := setC f.vars e.var e.index e.value }], s.fns⟩ := by
    unfold Rp.ev
    rw [if_neg (by omega), if_neg (by omega), if_pos h2, hl]
  refine ⟨{ f with vars := setC f.vars e.var e.index e.value }, l.set e.index.toNat e.value, by rw [hs]; simp, hn, v0, ?_, i0, ?_⟩
  · show (setC f.vars e.var e.index e.value)[e.var.toNat]? = _
    have hlt := (List.getElem?_eq_some_iff.1 hv).1
    unfold setC
    rw [getD_of hv, List.getElem?_set_self hlt]
  · rw [List.getElem?_set_self (by omega)]
theorem atE_pre {ps : List PF} {l : List Ev} {n : Nat} (h : atE ps l n = 0) : atE ps (l.take n) n = 0 := by
  obtain ⟨hs, -, hn⟩ := atE_ok h
  obtain ⟨hp, hr, hl⟩ := stateE_ok hs
  have hlt : (l.take n).length = n := by rw [List.length_take]; omega
  have h1 : rightE ps l = 0 := by
    unfold stateE at hs
    split at hs
    · rename_i h1; exact absurd hs h1
    · rename_i h1; omega
  have he : errP ps = 0 := by
    unfold rightE at h1
    split at h1
    · rename_i h2; exact absurd h1 h2
    · rename_i h2; omega
  have h2 : rightE ps (l.take n) = 0 := by
    unfold rightE
    rw [if_neg (by omega), if_neg (by omega)]
  have h3 : stateE ps (l.take n) = 0 := by
    unfold stateE
    rw [if_neg (by omega), if_pos (hr.pre hp (by omega))]
  unfold atE
  rw [if_neg (by omega), if_neg (by omega)]
theorem frsAt_pre (ps : List PF) (l : List Ev) (n : Nat) : frsAt ps (l.take n) n = frsAt ps l n := by
  unfold frsAt
  rw [show (n : Int).toNat = n by omega, List.take_take, Nat.min_self]
theorem sl_cut {α : Type} {r : Rep α} {w : World} {A : Option Addr} {n cap c : Nat} {xs : List α} (h : Sl r w (.slice A n cap) xs) (hc : c ≤ xs.length) : Sl r w (.slice A c cap) (xs.take c) := by
  obtain ⟨A', c', he, h1, h2, h3⟩ := h
  injection he with e1 _ e3
  subst e1 e3
  have hl : (xs.take c).length = c := by rw [List.length_take]; omega
  refine ⟨_, _, by rw [hl], by omega, h2, fun hp => ?_⟩
  obtain ⟨b, o, hA, hk⟩ := h3 (by omega)
  refine ⟨b, o, hA, fun k x hx => hk k x ?_⟩
  rw [List.getElem?_take] at hx
  split at hx
  · exact hx
  · cases hx
section
variable {o : Oper} {ρ : Operand → Value} {W : World} {x y : Operand}
theorem rs_cutE {A : Option Addr} {n c j : Nat} (ho : o.op = .slice 27 x none (some y) none) (hx : ρ x = .slice A n c) (hy : ρ y = .int .i64 j) (h1 : j ≤ c) : (execOp ρ o).run Try.prog W = .ok (.value (.slice A j c)) W := by
  have hA : (if c = 0 then A else A.map (·.add 0)) = A := by cases A with
    | none => split <;> rfl
    | some p => split <;> simp [Addr.add]
  have h0 : (0 : Int) ≤ j := by omega
  have h2 : (j : Int) ≤ c := by omega
  simp [execOp, ho, hx, hy, go_sem, h1]
theorem rb_ge {n m : Int} (ho : o.op = .binOp .geq 3 x y 3) (hx : ρ x = .int .i64 n) (hy : ρ y = .int .i64 m) (h : m ≤ n) : (execOp ρ o).run Try.prog W = .ok (.value (.bool true)) W := by
  simp [execOp, ho, hx, hy, go_sem, h]
theorem rb_lt {n m : Int} (ho : o.op = .binOp .lss 3 x y 3) (hx : ρ x = .int .i64 n) (hy : ρ y = .int .i64 m) (h : n < m) : (execOp ρ o).run Try.prog W = .ok (.value (.bool true)) W := by
  simp [execOp, ho, hx, hy, go_sem, h]
end
theorem undSF : ∃ d, Try.prog.underlying SFT = some d ∧ d.isRow = true := und_of (by kernel_rfl)
section
variable {ops : Array Oper} {rest : List Oper} {o1 o2 o3 : Oper} {a : Act} {w : World} {Q : Exit → Act → World → Prop}
/-- a frame copied -/
theorem copyFR (x y z : Operand) (hg1 : o1.guard = none) (hg2 : o2.guard = none) (hg3 : o3.guard = none)
    (ho1 : o1.op = .load 87 x) (ho2 : o2.op = .alloc 87) (ho3 : o3.op = .store 87 y z) (b o : Nat) (hx : a.eval x = .pointer (some ⟨b, o, none⟩)) (cs : List Value) (hl : cs.length = 3) (h1 : ∀ u ∈ cs, u.oneCell' = true) (hc : CellsAt w b o cs)
    (hy : ((a.put o1.dst (.agg cs.toArray)).put o2.dst (.pointer (some ⟨w.heap.size, 0, none⟩))).eval y = .pointer (some ⟨w.heap.size, 0, none⟩))
    (hz : ((a.put o1.dst (.agg cs.toArray)).put o2.dst (.pointer (some ⟨w.heap.size, 0, none⟩))).eval z = .agg cs.toArray)
    (h : wpList Try.prog ops Q rest (((a.put o1.dst (.agg cs.toArray)).put o2.dst (.pointer (some ⟨w.heap.size, 0, none⟩))).put o3.dst undef) (w.alloc (.cells cs.toArray 87))) : wpList Try.prog ops Q (o1 :: o2 :: o3 :: rest) a w := by
  obtain ⟨d, hu, hd⟩ := undSF
  exact wpList_copy _ x y z hg1 hg2 hg3 ho1 ho2 ho3 b o hx _ hc elSF d hu hd hl h1 hy hz h
end
set_option maxRecDepth 20000 in
set_option maxHeartbeats 8000000 in
theorem ahead_any (ps : List PF) (l : List Ev) (T : Int) (vp vl : Value) (w : World) (h : Sl pfR w vp ps) (hl : Sl evR w vl l) : Calls Try.prog 10 #[.agg #[vp], vl, .int .i64 T] w fun x w' => x = .returned (.bool true) ∧ Bel w w' := by
  have HSL := Lib.hid h
  have HEV := Lib.hid hl
  obtain ⟨A, c, rfl, -⟩ := sl_lit h
  obtain ⟨Ae, ce, rfl, hll⟩ := sl_lit hl
  have hce : l.length ≤ ce := by
    obtain ⟨A', c', he, h1, -⟩ := hl
    injection he with e1 _ e3
    subst e1 e3
    exact h1
  have HB1 : Hid (Bel w (w.alloc (.cells #[.slice A ps.length c] PGT))) := Lib.hid ((Bel.rfl_ w).al _)
  have HP1 := Lib.hid (Blk.new w PGT #[.slice A ps.length c])
  have HAT := Lib.hid (fun W (hb : Bel w W) => stAt_any ps l T _ _ W (HSL.out.keep hb) (HEV.out.keep hb))
  have HA := Lib.hid (@atE_ok ps l T)
  have HPRE := Lib.hid (fun n (hn : T = (n : Nat)) (h : atE ps l T = 0) => show atE ps (l.take n) n = 0 from atE_pre (by rw [← hn]; exact h))
  clear h hl
  generalize atE ps l T = E at *
  go_enter Try.func10, Try.ntmps10
  go_wp2_with fail
  refine (stateBegun_any _).mono ?_
  rintro r w2 ⟨rfl, b2⟩
  have HB2 := Lib.hid (HB1.out.tr b2)
  have HP2 := Lib.hid (HP1.out.keep b2)
  clear b2 HP1 HB1
  generalize w.alloc _ = W1 at *
  generalize w.heap.size = Q at *
  have c0 := HP2.out.cell (i := 0) rfl
  go_wp2_with fail
  refine (HAT.out _ HB2.out).mono ?_
  rintro r w3 ⟨b3, va, rfl, hne, hok⟩
  have HB3 := Lib.hid (HB2.out.tr b3)
  have HP3 := Lib.hid (HP2.out.keep b3)
  clear b3 c0 HB2 HP2 HAT
  by_cases h0 : E = 0
  rotate_left
  · have d0 : (E != 0) = true := by simpa using h0
    obtain rfl := hne h0
    clear hok h0 hne
    go_wp2
    go_ret
    exact ⟨rfl, HB3.out⟩
  have d0 : (E != 0) = false := by simpa using h0
  have HF3 := Lib.hid (hok h0)
  obtain ⟨hs, t0, t1⟩ := HA.out h0
  obtain ⟨n, rfl⟩ : ∃ n : Nat, T = n := ⟨T.toNat, by omega⟩
  have HPR := Lib.hid (HPRE.out n rfl h0)
  obtain ⟨hp, hr, hl4⟩ := stateE_ok hs
  have hft := RightP.fits hp hr
  have hnl : n ≤ l.length := by omega
  have hfp : Fits_ ps (l.take n) (Rp.start ps) := by
    rw [← List.take_append_drop n l, fits_app] at hft
    exact hft.1
  have hfe : frsAt ps l n ≠ [] := by
    unfold frsAt
    exact evs_ne hfp (by unfold Rp.start; simp)
  have HWR : Hid (∀ e, 0 < n → l[n - 1]? = some e → e.kind = 2 → ∃ f l', (frsAt ps l n).getLast? = some f ∧ f.num = e.frame ∧ 0 ≤ e.var ∧ f.vars[e.var.toNat]? = some l' ∧ 0 ≤ e.index ∧ l'[e.index.toNat]? = some e.value) := Lib.hid (fun e h1 he h2 => by
    obtain ⟨m, rfl⟩ : ∃ m, n = m + 1 := ⟨n - 1, by omega⟩
    rw [show m + 1 - 1 = m by omega] at he
    have h3 := ev_write (fits_at hft he) h2
    rw [← evs_snoc he] at h3
    exact h3)
  have HAT2 : Hid (∀ W, Bel w3 W → Calls Try.prog 34 #[.agg #[.slice A ps.length c], .slice Ae n ce, .int .i64 n] W fun x w' => ∃ vb, x = .returned (.tuple #[vb, .int .i64 0]) ∧ Bel W w' ∧ Sl frR w' vb (frsAt ps l n)) := Lib.hid (fun W hb => (stAt_any ps (l.take n) n _ _ W (HSL.out.keep (HB3.out.tr hb)) (by
      have := sl_cut (HEV.out.keep (HB3.out.tr hb)) hnl
      exact this)).mono (by
      rintro x w' ⟨b, vb, rfl, -, hv⟩
      rw [HPR.out]
      refine ⟨vb, rfl, b, ?_⟩
      have := hv HPR.out
      rwa [frsAt_pre] at this))
  clear hne hok hs hp hr hl4 hft hfp HPRE HA HPR
  generalize frsAt ps l n = FS at *
  obtain ⟨Af, cf, rfl, hfl⟩ := sl_lit HF3.out
  have hfpos : 0 < FS.length := List.length_pos_iff.2 hfe
  have d1 : ((FS.length : Int) == 0) = false := by rw [beq_eq_false_iff_ne]; omega
  have c0 := HP3.out.cell (i := 0) rfl
  have dn0 : decide ((n : Int) < 0) = false := decide_eq_false (by omega)
  have dn1 : decide ((n : Int) > l.length) = false := decide_eq_false (by omega)
  have dn3 : decide (l.length < n) = false := decide_eq_false (by omega)
  have dn2 : decide ((l.length : Int) < n) = false := decide_eq_false (by omega)
  go_upto_region 8 with fail
  refine wp_region_held_drew (S := fun W => Bel w3 W) (by kernel_rfl) ((Bel.rfl_ w3).dr) (fun hS => ?_)
  refine rt_take (i := 0) (some 35) (.agg #[.slice A ps.length c]) rfl rfl (by kernel_rfl) (by kernel_rfl) (by kernel_rfl) (fun _ _ _ h => h) (by kernel_rfl) hS (fun W hb => rl_pg rfl (by kernel_rfl) (hb.cell c0)) ?_
  refine rt_take (i := 1) (some 36) (.slice Ae l.length ce) rfl rfl (by kernel_rfl) (by kernel_rfl) (by kernel_rfl) (fun _ _ _ h => h) (by kernel_rfl) hS (fun W _ => by kernel_rfl) ?_
  refine rt_take (i := 2) (some 37) (.int .i64 n) rfl rfl (by kernel_rfl) (by kernel_rfl) (by kernel_rfl) (fun _ _ _ h => h) (by kernel_rfl) hS (fun W _ => by kernel_rfl) ?_
  refine rt_take (i := 3) (some 38) (.slice Ae n ce) rfl rfl (by kernel_rfl) (by kernel_rfl) (by kernel_rfl) (fun _ _ _ h => h) (by kernel_rfl) hS (fun W _ => rs_cutE (n := l.length) (c := ce) (j := n) rfl (by kernel_rfl) (by kernel_rfl) (by omega)) ?_
  refine rt_take (i := 4) (some 39) (.int .i64 n) rfl rfl (by kernel_rfl) (by kernel_rfl) (by kernel_rfl) (fun _ _ _ h => h) (by kernel_rfl) hS (fun W _ => by kernel_rfl) ?_
  refine rt_call (i := 5) (some 40) (by kernel_rfl) rfl rfl (by kernel_rfl) 34 #[.agg #[.slice A ps.length c], .slice Ae n ce, .int .i64 n] (by kernel_rfl) (HAT2.out _ hS) ?_
  rintro x1 W9 ⟨vb, rfl, hb, hv⟩
  have HVB := Lib.hid hv
  clear hv
  refine ⟨_, rfl, hS.tr hb, fun hS => ?_⟩
  refine rt_take (i := 6) (some 34) (.tuple #[vb, .int .i64 0]) rfl rfl (by kernel_rfl) (by kernel_rfl) (by kernel_rfl) (fun _ _ _ h => h) (by kernel_rfl) hS (fun W _ => by kernel_rfl) ?_
  refine rt_take (i := 7) (some 41) (vb) rfl rfl (by kernel_rfl) (by kernel_rfl) (by kernel_rfl) (fun _ _ _ h => h) (by kernel_rfl) hS (fun W _ => by kernel_rfl) ?_
  refine rt_take (i := 8) (some 42) (.int .i64 0) rfl rfl (by kernel_rfl) (by kernel_rfl) (by kernel_rfl) (fun _ _ _ h => h) (by kernel_rfl) hS (fun W _ => by kernel_rfl) ?_
  refine rt_take (i := 9) (some 9) (vb) rfl rfl (by kernel_rfl) (by kernel_rfl) (by kernel_rfl) (fun _ _ _ h => h) (by kernel_rfl) hS (fun W _ => by kernel_rfl) ?_
  refine rt_take (i := 10) (some 8) (.int .i64 0) rfl rfl (by kernel_rfl) (by kernel_rfl) (by kernel_rfl) (fun _ _ _ h => h) (by kernel_rfl) hS (fun W _ => by kernel_rfl) ?_
  refine wpAnyH_done (by kernel_rfl) ?_ _
  try simp only [Act.put, List.setIfInBounds_toArray, List.set_cons_zero, List.set_cons_succ]
  have HB4 := Lib.hid (HB3.out.tr hS)
  have HF4 := Lib.hid (HF3.out.keep hS)
  clear hS HAT2 HB3 HF3 HP3 c0
  go_wp2_with fail
  refine (sameFrames_any _ _ _ _ _ HF4.out HVB.out).mono ?_
  rintro r w5 ⟨rfl, b5⟩
  rw [decide_eq_true rfl]
  have HB5 := Lib.hid (HB4.out.tr b5)
  have HF5 := Lib.hid (HF4.out.keep b5)
  clear b5 HB4 HF4 HVB
  by_cases hn : n = 0
  · have dz : ((n : Int) == 0) = true := by rw [hn]; rfl
    clear hn HWR
    go_wp2
    go_ret
    exact ⟨rfl, HB5.out⟩
  have dz : ((n : Int) == 0) = false := by rw [beq_eq_false_iff_ne]; omega
  obtain ⟨e, he⟩ : ∃ e, l[n - 1]? = some e := ⟨_, List.getElem?_eq_getElem (by omega)⟩
  have HW := Lib.hid (HWR.out e (by omega) he)
  obtain ⟨b, o, rfl, hea⟩ := HEV.out.event he
  have HEA := Lib.hid (hea.keep HB5.out)
  have j0 : (0 : Int) ≤ (n : Int) - 1 := by omega
  have j1 : (n : Int) - 1 < l.length := by omega
  have e0 : w5.cell? ⟨b, o + (n - 1) * 6, none⟩ = some (.int .i64 e.kind) := HEA.out 0 _ rfl
  clear hea he HWR hn
  by_cases h2 : e.kind = 2
  rotate_left
  · have d2 : (e.kind != 2) = true := by simpa using h2
    clear h2 HW
    go_wp2
    go_ret
    exact ⟨rfl, HB5.out⟩
  have d2 : (e.kind != 2) = false := by rw [h2]; rfl
  obtain ⟨f, L, hf, hnum, v0, hv, x0, hx⟩ := HW.out h2
  rw [List.getLast?_eq_getElem?] at hf
  obtain ⟨bf, of_, cs, rfl, hcs, hca⟩ := HF5.out.elem (k := FS.length - 1) hf
  obtain ⟨vv, rfl, hsv⟩ := hcs
  obtain ⟨Av, cv, rfl, -⟩ := sl_lit hsv
  obtain ⟨bv, ov, cs2, rfl, hcs2, hca2⟩ := hsv.elem hv
  obtain ⟨vi, rfl, hsi⟩ := hcs2
  obtain ⟨Ai, ci, rfl, -⟩ := sl_lit hsi
  obtain ⟨bi, oi, cs3, rfl, hcs3, hca3⟩ := hsi.elem hx
  obtain rfl : cs3 = [.int .i64 e.value] := hcs3
  have hnum2 : (f.num == e.frame) = true := by rw [hnum]; exact beq_self_eq_true _
  have hvl := (List.getElem?_eq_some_iff.1 hv).1
  have hxl := (List.getElem?_eq_some_iff.1 hx).1
  have y1 : e.var < f.vars.length := by omega
  have y2 : e.index < L.length := by omega
  have HB6 := Lib.hid (HB5.out.al (.cells e.cells.toArray EVT))
  have HK1 := Lib.hid (Blk.new w5 EVT e.cells.toArray)
  have HC1 := Lib.hid (hca.keep ((Bel.rfl_ w5).al (.cells e.cells.toArray EVT)))
  have g0 : w5.cell? ⟨bv, ov + e.var.toNat, none⟩ = some (.slice (some ⟨bi, oi, none⟩) L.length ci) := by have := hca2 0 _ rfl; rwa [show ov + e.var.toNat * intsR.size + 0 = ov + e.var.toNat by show ov + e.var.toNat * 1 + 0 = _; omega] at this
  have g1 : w5.cell? ⟨bi, oi + e.index.toNat, none⟩ = some (.int .i64 e.value) := by have := hca3 0 _ rfl; rwa [show oi + e.index.toNat * intR.size + 0 = oi + e.index.toNat by show oi + e.index.toNat * 1 + 0 = _; omega] at this
  have HG0 := Lib.hid g0
  have HG1 := Lib.hid g1
  have f0 : (0 : Int) ≤ (FS.length : Int) - 1 := by omega
  have f1 : (FS.length : Int) - 1 < FS.length := by omega
  have HBB := Lib.hid ((Bel.rfl_ w5).al (.cells e.cells.toArray EVT))
  clear h2 HW hf hca hca2 hca3 hsv hsi hv hx g0 g1 hnum hvl hxl HF5
  go_upto_region 14 with (refine copyEV (.tmp 70) (.tmp 10) (.tmp 71) rfl rfl rfl rfl rfl rfl b (o + (n - 1) * 6) (by exact rfl) e HEA.out (by exact rfl) (by exact rfl) ?_)
  generalize hW6 : w5.alloc _ = W6 at *
  clear hW6 HEA e0
  generalize w5.heap.size = K1 at *
  go_upto_region 15 with (refine copyFR (.tmp 76) (.tmp 11) (.tmp 77) rfl rfl rfl rfl rfl rfl bf (of_ + (FS.length - 1) * 3) (by exact rfl) _ rfl (by simp [Value.oneCell']) HC1.out (by exact rfl) (by exact rfl) ?_)
  have HB7 := Lib.hid (HB6.out.al (.cells #[.int .i64 f.num, .int .i64 f.fn, .slice (some ⟨bv, ov, none⟩) f.vars.length cv] SFT))
  have HK2 := Lib.hid (Blk.new W6 SFT #[.int .i64 f.num, .int .i64 f.fn, .slice (some ⟨bv, ov, none⟩) f.vars.length cv])
  have HK1b := Lib.hid (HK1.out.keep ((Bel.rfl_ W6).al (.cells #[.int .i64 f.num, .int .i64 f.fn, .slice (some ⟨bv, ov, none⟩) f.vars.length cv] SFT)))
  have HBC := Lib.hid (HBB.out.al (.cells #[.int .i64 f.num, .int .i64 f.fn, .slice (some ⟨bv, ov, none⟩) f.vars.length cv] SFT))
  generalize hW7 : W6.alloc _ = W7 at *
  clear hW7 HB6 HK1 HC1 HBB
  generalize W6.heap.size = K2 at *
  have k1 := HK1b.out.cell (i := 1) (v := .int .i64 e.frame) rfl
  have k3 := HK1b.out.cell (i := 3) (v := .int .i64 e.var) rfl
  have k4 := HK1b.out.cell (i := 4) (v := .int .i64 e.index) rfl
  have k5 := HK1b.out.cell (i := 5) (v := .int .i64 e.value) rfl
  have m0 := HK2.out.cell (i := 0) (v := .int .i64 f.num) rfl
  have m2 := HK2.out.cell (i := 2) (v := .slice (some ⟨bv, ov, none⟩) f.vars.length cv) rfl
  have g0 := HBC.out.cell HG0.out
  have g1 := HBC.out.cell HG1.out
  refine wp_region_held_drew (S := fun W => Bel W7 W) (by kernel_rfl) ((Bel.rfl_ W7).dr) (fun hS => ?_)
  refine rt_take (i := 0) (some 78) (.pointer (some ⟨K2, 0, none⟩)) rfl rfl (by kernel_rfl) (by kernel_rfl) (by kernel_rfl) (fun _ _ _ h => h) (by kernel_rfl) hS (fun W _ => by kernel_rfl) ?_
  refine rt_take (i := 1) (some 79) (.int .i64 f.num) rfl rfl (by kernel_rfl) (by kernel_rfl) (by kernel_rfl) (fun _ _ _ h => h) (by kernel_rfl) hS (fun W hb => rl_int rfl (by kernel_rfl) (hb.cell m0)) ?_
  refine rt_take (i := 2) (some 80) (.pointer (some ⟨K1, 1, none⟩)) rfl rfl (by kernel_rfl) (by kernel_rfl) (by kernel_rfl) (fun _ _ _ h => h) (by kernel_rfl) hS (fun W _ => by kernel_rfl) ?_
  refine rt_take (i := 3) (some 81) (.int .i64 e.frame) rfl rfl (by kernel_rfl) (by kernel_rfl) (by kernel_rfl) (fun _ _ _ h => h) (by kernel_rfl) hS (fun W hb => rl_int rfl (by kernel_rfl) (hb.cell k1)) ?_
  refine rt_take (i := 4) (some 82) (.bool true) rfl rfl (by kernel_rfl) (by kernel_rfl) (by kernel_rfl) (fun _ _ _ h => h) (by kernel_rfl) hS (fun W _ => rb_eq rfl (by kernel_rfl) (by kernel_rfl) hnum2) ?_
  refine rt_take (i := 5) (some 83) (.bool true) rfl rfl (by kernel_rfl) (by kernel_rfl) (by kernel_rfl) (fun _ _ _ h => h) (by kernel_rfl) hS (fun W _ => by kernel_rfl) ?_
  refine rt_take (i := 6) (some 84) (.pointer (some ⟨K1, 3, none⟩)) rfl rfl (by kernel_rfl) (by kernel_rfl) (by kernel_rfl) (fun _ _ _ h => h) (by kernel_rfl) hS (fun W _ => by kernel_rfl) ?_
  refine rt_take (i := 7) (some 85) (.int .i64 e.var) rfl rfl (by kernel_rfl) (by kernel_rfl) (by kernel_rfl) (fun _ _ _ h => h) (by kernel_rfl) hS (fun W hb => rl_int rfl (by kernel_rfl) (hb.cell k3)) ?_
  refine rt_take (i := 8) (some 86) (.bool true) rfl rfl (by kernel_rfl) (by kernel_rfl) (by kernel_rfl) (fun _ _ _ h => h) (by kernel_rfl) hS (fun W _ => rb_ge (n := e.var) (m := 0) rfl (by kernel_rfl) (by kernel_rfl) (by omega)) ?_
  refine rt_take (i := 9) (some 87) (.bool true) rfl rfl (by kernel_rfl) (by kernel_rfl) (by kernel_rfl) (fun _ _ _ h => h) (by kernel_rfl) hS (fun W _ => by kernel_rfl) ?_
  refine rt_take (i := 10) (some 88) (.bool true) rfl rfl (by kernel_rfl) (by kernel_rfl) (by kernel_rfl) (fun _ _ _ h => h) (by kernel_rfl) hS (fun W _ => by kernel_rfl) ?_
  refine rt_take (i := 11) (some 89) (.pointer (some ⟨K1, 3, none⟩)) rfl rfl (by kernel_rfl) (by kernel_rfl) (by kernel_rfl) (fun _ _ _ h => h) (by kernel_rfl) hS (fun W _ => by kernel_rfl) ?_
  refine rt_take (i := 12) (some 90) (.int .i64 e.var) rfl rfl (by kernel_rfl) (by kernel_rfl) (by kernel_rfl) (fun _ _ _ h => h) (by kernel_rfl) hS (fun W hb => rl_int rfl (by kernel_rfl) (hb.cell k3)) ?_
  refine rt_take (i := 13) (some 91) (.pointer (some ⟨K2, 2, none⟩)) rfl rfl (by kernel_rfl) (by kernel_rfl) (by kernel_rfl) (fun _ _ _ h => h) (by kernel_rfl) hS (fun W _ => by kernel_rfl) ?_
  refine rt_take (i := 14) (some 92) (.slice (some ⟨bv, ov, none⟩) f.vars.length cv) rfl rfl (by kernel_rfl) (by kernel_rfl) (by kernel_rfl) (fun _ _ _ h => h) (by kernel_rfl) hS (fun W hb => rl_ints rfl (by kernel_rfl) (hb.cell m2)) ?_
  refine rt_take (i := 15) (some 93) (.int .i64 f.vars.length) rfl rfl (by kernel_rfl) (by kernel_rfl) (by kernel_rfl) (fun _ _ _ h => h) (by kernel_rfl) hS (fun W _ => by kernel_rfl) ?_
  refine rt_take (i := 16) (some 94) (.bool true) rfl rfl (by kernel_rfl) (by kernel_rfl) (by kernel_rfl) (fun _ _ _ h => h) (by kernel_rfl) hS (fun W _ => rb_lt (n := e.var) (m := f.vars.length) rfl (by kernel_rfl) (by kernel_rfl) (by omega)) ?_
  refine rt_take (i := 17) (some 95) (.bool true) rfl rfl (by kernel_rfl) (by kernel_rfl) (by kernel_rfl) (fun _ _ _ h => h) (by kernel_rfl) hS (fun W _ => by kernel_rfl) ?_
  refine rt_take (i := 18) (some 96) (.bool true) rfl rfl (by kernel_rfl) (by kernel_rfl) (by kernel_rfl) (fun _ _ _ h => h) (by kernel_rfl) hS (fun W _ => by kernel_rfl) ?_
  refine rt_take (i := 19) (some 97) (.pointer (some ⟨K1, 4, none⟩)) rfl rfl (by kernel_rfl) (by kernel_rfl) (by kernel_rfl) (fun _ _ _ h => h) (by kernel_rfl) hS (fun W _ => by kernel_rfl) ?_
  refine rt_take (i := 20) (some 98) (.int .i64 e.index) rfl rfl (by kernel_rfl) (by kernel_rfl) (by kernel_rfl) (fun _ _ _ h => h) (by kernel_rfl) hS (fun W hb => rl_int rfl (by kernel_rfl) (hb.cell k4)) ?_
  refine rt_take (i := 21) (some 99) (.bool true) rfl rfl (by kernel_rfl) (by kernel_rfl) (by kernel_rfl) (fun _ _ _ h => h) (by kernel_rfl) hS (fun W _ => rb_ge (n := e.index) (m := 0) rfl (by kernel_rfl) (by kernel_rfl) (by omega)) ?_
  refine rt_take (i := 22) (some 100) (.bool true) rfl rfl (by kernel_rfl) (by kernel_rfl) (by kernel_rfl) (fun _ _ _ h => h) (by kernel_rfl) hS (fun W _ => by kernel_rfl) ?_
  refine rt_take (i := 23) (some 101) (.bool true) rfl rfl (by kernel_rfl) (by kernel_rfl) (by kernel_rfl) (fun _ _ _ h => h) (by kernel_rfl) hS (fun W _ => by kernel_rfl) ?_
  refine rt_take (i := 24) (some 102) (.pointer (some ⟨K1, 4, none⟩)) rfl rfl (by kernel_rfl) (by kernel_rfl) (by kernel_rfl) (fun _ _ _ h => h) (by kernel_rfl) hS (fun W _ => by kernel_rfl) ?_
  refine rt_take (i := 25) (some 103) (.int .i64 e.index) rfl rfl (by kernel_rfl) (by kernel_rfl) (by kernel_rfl) (fun _ _ _ h => h) (by kernel_rfl) hS (fun W hb => rl_int rfl (by kernel_rfl) (hb.cell k4)) ?_
  refine rt_take (i := 26) (some 104) (.pointer (some ⟨K2, 2, none⟩)) rfl rfl (by kernel_rfl) (by kernel_rfl) (by kernel_rfl) (fun _ _ _ h => h) (by kernel_rfl) hS (fun W _ => by kernel_rfl) ?_
  refine rt_take (i := 27) (some 105) (.slice (some ⟨bv, ov, none⟩) f.vars.length cv) rfl rfl (by kernel_rfl) (by kernel_rfl) (by kernel_rfl) (fun _ _ _ h => h) (by kernel_rfl) hS (fun W hb => rl_ints rfl (by kernel_rfl) (hb.cell m2)) ?_
  refine rt_take (i := 28) (some 106) (.pointer (some ⟨K1, 3, none⟩)) rfl rfl (by kernel_rfl) (by kernel_rfl) (by kernel_rfl) (fun _ _ _ h => h) (by kernel_rfl) hS (fun W _ => by kernel_rfl) ?_
  refine rt_take (i := 29) (some 107) (.int .i64 e.var) rfl rfl (by kernel_rfl) (by kernel_rfl) (by kernel_rfl) (fun _ _ _ h => h) (by kernel_rfl) hS (fun W hb => rl_int rfl (by kernel_rfl) (hb.cell k3)) ?_
  refine rt_take (i := 30) (some 108) (.pointer (some ⟨bv, ov + e.var.toNat, none⟩)) rfl rfl (by kernel_rfl) (by kernel_rfl) (by kernel_rfl) (fun _ _ _ h => h) (by kernel_rfl) hS (fun W _ => by go_simp) ?_
  refine rt_take (i := 31) (some 109) (.slice (some ⟨bi, oi, none⟩) L.length ci) rfl rfl (by kernel_rfl) (by kernel_rfl) (by kernel_rfl) (fun _ _ _ h => h) (by kernel_rfl) hS (fun W hb => rl_is rfl (by kernel_rfl) (hb.cell g0)) ?_
  refine rt_take (i := 32) (some 110) (.int .i64 L.length) rfl rfl (by kernel_rfl) (by kernel_rfl) (by kernel_rfl) (fun _ _ _ h => h) (by kernel_rfl) hS (fun W _ => by kernel_rfl) ?_
  refine rt_take (i := 33) (some 111) (.bool true) rfl rfl (by kernel_rfl) (by kernel_rfl) (by kernel_rfl) (fun _ _ _ h => h) (by kernel_rfl) hS (fun W _ => rb_lt (n := e.index) (m := L.length) rfl (by kernel_rfl) (by kernel_rfl) (by omega)) ?_
  refine rt_take (i := 34) (some 112) (.bool true) rfl rfl (by kernel_rfl) (by kernel_rfl) (by kernel_rfl) (fun _ _ _ h => h) (by kernel_rfl) hS (fun W _ => by kernel_rfl) ?_
  refine rt_take (i := 35) (some 113) (.bool true) rfl rfl (by kernel_rfl) (by kernel_rfl) (by kernel_rfl) (fun _ _ _ h => h) (by kernel_rfl) hS (fun W _ => by kernel_rfl) ?_
  refine rt_take (i := 36) (some 114) (.pointer (some ⟨K2, 2, none⟩)) rfl rfl (by kernel_rfl) (by kernel_rfl) (by kernel_rfl) (fun _ _ _ h => h) (by kernel_rfl) hS (fun W _ => by kernel_rfl) ?_
  refine rt_take (i := 37) (some 115) (.slice (some ⟨bv, ov, none⟩) f.vars.length cv) rfl rfl (by kernel_rfl) (by kernel_rfl) (by kernel_rfl) (fun _ _ _ h => h) (by kernel_rfl) hS (fun W hb => rl_ints rfl (by kernel_rfl) (hb.cell m2)) ?_
  refine rt_take (i := 38) (some 116) (.pointer (some ⟨K1, 3, none⟩)) rfl rfl (by kernel_rfl) (by kernel_rfl) (by kernel_rfl) (fun _ _ _ h => h) (by kernel_rfl) hS (fun W _ => by kernel_rfl) ?_
  refine rt_take (i := 39) (some 117) (.int .i64 e.var) rfl rfl (by kernel_rfl) (by kernel_rfl) (by kernel_rfl) (fun _ _ _ h => h) (by kernel_rfl) hS (fun W hb => rl_int rfl (by kernel_rfl) (hb.cell k3)) ?_
  refine rt_take (i := 40) (some 118) (.pointer (some ⟨bv, ov + e.var.toNat, none⟩)) rfl rfl (by kernel_rfl) (by kernel_rfl) (by kernel_rfl) (fun _ _ _ h => h) (by kernel_rfl) hS (fun W _ => by go_simp) ?_
  refine rt_take (i := 41) (some 119) (.slice (some ⟨bi, oi, none⟩) L.length ci) rfl rfl (by kernel_rfl) (by kernel_rfl) (by kernel_rfl) (fun _ _ _ h => h) (by kernel_rfl) hS (fun W hb => rl_is rfl (by kernel_rfl) (hb.cell g0)) ?_
  refine rt_take (i := 42) (some 120) (.pointer (some ⟨K1, 4, none⟩)) rfl rfl (by kernel_rfl) (by kernel_rfl) (by kernel_rfl) (fun _ _ _ h => h) (by kernel_rfl) hS (fun W _ => by kernel_rfl) ?_
  refine rt_take (i := 43) (some 121) (.int .i64 e.index) rfl rfl (by kernel_rfl) (by kernel_rfl) (by kernel_rfl) (fun _ _ _ h => h) (by kernel_rfl) hS (fun W hb => rl_int rfl (by kernel_rfl) (hb.cell k4)) ?_
  refine rt_take (i := 44) (some 122) (.pointer (some ⟨bi, oi + e.index.toNat, none⟩)) rfl rfl (by kernel_rfl) (by kernel_rfl) (by kernel_rfl) (fun _ _ _ h => h) (by kernel_rfl) hS (fun W _ => by go_simp) ?_
  refine rt_take (i := 45) (some 123) (.int .i64 e.value) rfl rfl (by kernel_rfl) (by kernel_rfl) (by kernel_rfl) (fun _ _ _ h => h) (by kernel_rfl) hS (fun W hb => rl_int rfl (by kernel_rfl) (hb.cell g1)) ?_
  refine rt_take (i := 46) (some 124) (.pointer (some ⟨K1, 5, none⟩)) rfl rfl (by kernel_rfl) (by kernel_rfl) (by kernel_rfl) (fun _ _ _ h => h) (by kernel_rfl) hS (fun W _ => by kernel_rfl) ?_
  refine rt_take (i := 47) (some 125) (.int .i64 e.value) rfl rfl (by kernel_rfl) (by kernel_rfl) (by kernel_rfl) (fun _ _ _ h => h) (by kernel_rfl) hS (fun W hb => rl_int rfl (by kernel_rfl) (hb.cell k5)) ?_
  refine rt_take (i := 48) (some 126) (.bool true) rfl rfl (by kernel_rfl) (by kernel_rfl) (by kernel_rfl) (fun _ _ _ h => h) (by kernel_rfl) hS (fun W _ => rb_eq (n := e.value) (m := e.value) rfl (by kernel_rfl) (by kernel_rfl) (beq_self_eq_true _)) ?_
  refine rt_take (i := 49) (some 127) (.bool true) rfl rfl (by kernel_rfl) (by kernel_rfl) (by kernel_rfl) (fun _ _ _ h => h) (by kernel_rfl) hS (fun W _ => by kernel_rfl) ?_
  refine rt_take (i := 50) (some 6) (.bool true) rfl rfl (by kernel_rfl) (by kernel_rfl) (by kernel_rfl) (fun _ _ _ h => h) (by kernel_rfl) hS (fun W _ => by kernel_rfl) ?_
  refine wpAnyH_done (by kernel_rfl) ?_ _
  try simp only [Act.put, List.setIfInBounds_toArray, List.set_cons_zero, List.set_cons_succ]
  have HB8 := Lib.hid (HB7.out.tr hS)
  clear hS
  go_wp2
  go_ret
  exact ⟨rfl, HB8.out⟩
end Go.Proofs.Ytgkpplbomciehaa
