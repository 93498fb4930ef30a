/- A frame is made, by what replays events: walked. Each lemma states its own conditions. -/
import Derived.Test.YtgkpplbomciehaaSca36
import Derived.Test.YtgkpplbomciehaaSca37
namespace Go.Proofs.Ytgkpplbomciehaa
open Go.RowKit
theorem elSF : Elem Try.prog 66 87 3 40 := Elem.mk_ (z := .agg #[.int .i64 0, .int .i64 0, .slice none 0 0]) (by kernel_rfl) (by kernel_rfl) rfl (by decide)
section
variable {o : Oper} {ρ : Operand → Value} {W : World} {x y : Operand} {b f : Nat} {v u : Value}
theorem rl_fr (ho : o.op = .load 66 x) (hx : ρ x = .pointer (some ⟨b, f, none⟩)) (hc : W.cell? ⟨b, f, none⟩ = some v) : (execOp ρ o).run Try.prog W = .ok (.value v) W := by
  simp [execOp, ho, hx, hc, go_sem]
theorem rs_fr {A : Option Addr} {n c : Nat} (ho : o.op = .store 66 x y) (hx : ρ x = .pointer (some ⟨b, f, none⟩)) (hy : ρ y = .slice A n c) (hc : W.cell? ⟨b, f, none⟩ = some u) (hf : W.frozen? ⟨b, f, none⟩ = false) : (execOp ρ o).run Try.prog W = .ok .skip (W.setCell ⟨b, f, none⟩ (.slice A n c)) := by
  simp [execOp, ho, hx, hy, hc, hf, go_sem]
end
section
variable {P : Program} {md : Region.Mode} {ops : Array Oper} {Q : Exit → Act → World → Prop} {S : World → Prop} {fuel : Nat} {listed : Array Bool} {a : Act} {w : World} {i : Nat}
/-- a call comes up -/
theorem st_call (d : Option Tmp) {o : Oper} (hi : ops[i]? = some o) (hd : o.dst = d) (hw : Region.wanted o (yielded ops a.tmps) = true) (f : FuncId) (args : Array Value) (hrun : (execOp a.eval o).run P w = .ok (.enter f args) w) {R : Ending → World → Prop} (hc : Calls P f args w R)
    (h : ∀ e w', R e w' → ∃ v, e = .returned v ∧ S w' ∧ wpAnyH P md ops Q S fuel (listed.setIfInBounds i true) (a.put d v) w') : StepAt P md ops Q S fuel listed a w i :=
  wpOp_step hi fun _ hK => by
    subst hd
    rw [if_pos hw]
    unfold Oper.wp
    rw [hrun, Oper.upon_enter]
    refine hc.mono fun e w' hh => ?_
    obtain ⟨v, rfl, hS, hW⟩ := h e w' hh
    exact hK _ _ ⟨hS, hW⟩
/-- a store comes up -/
theorem st_sto (d : Option Tmp) {o : Oper} (hi : ops[i]? = some o) (hd : o.dst = d) (hw : Region.wanted o (yielded ops a.tmps) = true) (w' : World) (hrun : (execOp a.eval o).run P w = .ok .skip w') (hS : S w')
    (h : wpAnyH P md ops Q S fuel (listed.setIfInBounds i true) (a.put d undef) w') : StepAt P md ops Q S fuel listed a w i :=
  wpOp_step hi fun _ hK => by
    subst hd
    rw [if_pos hw]
    unfold Oper.wp
    rw [hrun]
    exact hK _ _ ⟨hS, h⟩
end
set_option maxRecDepth 20000 in
set_option maxHeartbeats 4000000 in
theorem enter_any (G : Gst) (w0 : World) (ps : List PF) (r : Nat) (s : Rp) (num fn : Int) (w : World) (hM : RepM G w0 ps r w s) (h0 : 0 ≤ fn) (h1 : fn < ps.length) (hz : ∀ n ∈ (ps.getD fn.toNat noF).sizes, 0 ≤ n ∧ n ≤ 8) (hz2 : (ps.getD fn.toNat noF).sizes.length ≤ 20) (hl : s.frs.length ≤ 100000) (hl2 : s.fns.length ≤ 100000) :
    Calls Try.prog 126 #[.pointer (some ⟨r, 0, none⟩), .int .i64 num, .int .i64 fn] w fun x w' => x = .returned (.tuple #[]) ∧ RepM G w0 ps r w' ⟨s.frs ++ [⟨num, fn, zeroV (ps.getD fn.toNat noF).sizes⟩], s.fns ++ [fn]⟩ := by
  obtain ⟨vp, vfr, vfn, xs, hD⟩ := hM
  have HD := Lib.hid hD
  have hg := Prog.get h0 h1
  obtain ⟨Ap, cp, rfl, -⟩ := sl_lit hD.prog
  obtain ⟨bp, op, fcs, rfl, hfc, hfa⟩ := hD.prog.elem hg
  obtain ⟨vz, vc, vr, hq, hsz, -⟩ := hfc
  obtain ⟨Az, cz, rfl, -⟩ := sl_lit hsz
  have HC1 := Lib.hid (fun W (hb : Below w0.heap.size w0 W) => (Below.cell hb (p := ⟨bp, op + fn.toNat * 6 + 1, none⟩) (lt_of_cell (hfa 1 (.slice Az (ps.getD fn.toNat noF).sizes.length cz) (by rw [hq]; rfl)))).trans (hfa 1 (.slice Az (ps.getD fn.toNat noF).sizes.length cz) (by rw [hq]; rfl)))
  have HCL := Lib.hid (fun W (hb : Bel w0 W) => cells_any _ hz hz2 _ W (hsz.keep hb))
  have hxl : xs.length ≤ 100000 := by have := hD.len; omega
  have HXL := Lib.hid hxl
  have HL2 := Lib.hid hl2
  have hLO := hD.bel.size
  obtain ⟨Af, cf, rfl⟩ := own_lit hD.row
  obtain ⟨An, cn, rfl⟩ := own_lit hD.fns
  have HR0 := Lib.hid hD.blk
  clear hD hg hfa hq hsz hz hz2 hl hxl hl2
  generalize hZN : (ps.getD fn.toNat noF).sizes = ZS at *
  clear hZN
  go_enter Try.func126, Try.ntmps126
  go_upto_region 0 with fail
  refine wp_region_held_drew (S := fun W => Below w0.heap.size w0 W ∧ W.cell? ⟨r, 0, none⟩ = some (.slice (some ⟨bp, op, none⟩) ps.length cp)) (by kernel_rfl) ⟨HD.out.bel.drew, (HR0.out.keep ((Bel.rfl_ w).dr)).cell (i := 0) rfl⟩ (fun hS => ?_)
  refine rt_take (i := 0) (some 6) (.pointer (some ⟨r, 0, none⟩)) rfl rfl (by kernel_rfl) (by kernel_rfl) (by kernel_rfl) (fun _ _ _ h => h) (by kernel_rfl) hS (fun W _ => by kernel_rfl) ?_
  refine rt_take (i := 1) (some 7) (.pointer (some ⟨r, 0, none⟩)) rfl rfl (by kernel_rfl) (by kernel_rfl) (by kernel_rfl) (fun _ _ _ h => h) (by kernel_rfl) hS (fun W _ => by kernel_rfl) ?_
  refine rt_take (i := 2) (some 8) (.pointer (some ⟨r, 0, none⟩)) rfl rfl (by kernel_rfl) (by kernel_rfl) (by kernel_rfl) (fun _ _ _ h => h) (by kernel_rfl) hS (fun W _ => by kernel_rfl) ?_
  refine rt_take (i := 3) (some 9) (.pointer (some ⟨r, 1, none⟩)) rfl rfl (by kernel_rfl) (by kernel_rfl) (by kernel_rfl) (fun _ _ _ h => h) (by kernel_rfl) hS (fun W _ => by kernel_rfl) ?_
  refine rt_take (i := 5) (some 11) (.int .i64 num) rfl rfl (by kernel_rfl) (by kernel_rfl) (by kernel_rfl) (fun _ _ _ h => h) (by kernel_rfl) hS (fun W _ => by kernel_rfl) ?_
  refine rt_take (i := 6) (some 12) (.int .i64 fn) rfl rfl (by kernel_rfl) (by kernel_rfl) (by kernel_rfl) (fun _ _ _ h => h) (by kernel_rfl) hS (fun W _ => by kernel_rfl) ?_
  refine rt_take (i := 7) (some 13) (.pointer (some ⟨r, 0, none⟩)) rfl rfl (by kernel_rfl) (by kernel_rfl) (by kernel_rfl) (fun _ _ _ h => h) (by kernel_rfl) hS (fun W _ => by kernel_rfl) ?_
  refine rt_take (i := 8) (some 14) (.pointer (some ⟨r, 0, none⟩)) rfl rfl (by kernel_rfl) (by kernel_rfl) (by kernel_rfl) (fun _ _ _ h => h) (by kernel_rfl) hS (fun W _ => by kernel_rfl) ?_
  refine rt_take (i := 9) (some 15) (.pointer (some ⟨r, 0, none⟩)) rfl rfl (by kernel_rfl) (by kernel_rfl) (by kernel_rfl) (fun _ _ _ h => h) (by kernel_rfl) hS (fun W _ => by kernel_rfl) ?_
  refine rt_take (i := 10) (some 16) (.pointer (some ⟨r, 0, none⟩)) rfl rfl (by kernel_rfl) (by kernel_rfl) (by kernel_rfl) (fun _ _ _ h => h) (by kernel_rfl) hS (fun W _ => by kernel_rfl) ?_
  refine rt_take (i := 11) (some 17) (.slice (some ⟨bp, op, none⟩) ps.length cp) rfl rfl (by kernel_rfl) (by kernel_rfl) (by kernel_rfl) (fun _ _ _ h => h) (by kernel_rfl) hS (fun W hb => rl_fs rfl (by kernel_rfl) hb.2) ?_
  refine rt_take (i := 12) (some 18) (.int .i64 fn) rfl rfl (by kernel_rfl) (by kernel_rfl) (by kernel_rfl) (fun _ _ _ h => h) (by kernel_rfl) hS (fun W _ => by kernel_rfl) ?_
  refine rt_take (i := 13) (some 19) (.pointer (some ⟨bp, op + fn.toNat * 6, none⟩)) rfl rfl (by kernel_rfl) (by kernel_rfl) (by kernel_rfl) (fun _ _ _ h => h) (by kernel_rfl) hS (fun W _ => by go_simp) ?_
  refine rt_take (i := 14) (some 20) (.pointer (some ⟨bp, op + fn.toNat * 6 + 1, none⟩)) rfl rfl (by kernel_rfl) (by kernel_rfl) (by kernel_rfl) (fun _ _ _ h => h) (by kernel_rfl) hS (fun W _ => by kernel_rfl) ?_
  refine rt_take (i := 15) (some 21) (.slice Az ZS.length cz) rfl rfl (by kernel_rfl) (by kernel_rfl) (by kernel_rfl) (fun _ _ _ h => h) (by kernel_rfl) hS (fun W hb => rl_is rfl (by kernel_rfl) (HC1.out W hb.1)) ?_
  have HBW := Lib.hid ((Bel.rfl_ w).dr)
  have HWD : Hid (w.heap.size ≤ w.drew.heap.size) := Lib.hid HBW.out.size
  generalize w.drew = wd at *
  refine st_two (i := 4) (j := 16) (by kernel_rfl) ?_ ?_
  · skip
    refine st_to (i := 4) (some 10) rfl rfl (by kernel_rfl) (.slice Af xs.length cf) wd (rl_fr rfl (by kernel_rfl) ((HR0.out.keep (HBW.out)).cell (i := 1) rfl)) hS ?_
    refine st_one (i := 16) (by kernel_rfl) ?_
    refine st_call (i := 16) (some 22) rfl rfl (by kernel_rfl) 86 #[.slice Az ZS.length cz] (by kernel_rfl) (HCL.out wd hS.1) ?_
    rintro x1 w1 ⟨u, rfl, hu, hb1⟩
    obtain ⟨gs, hgs⟩ := hu
    obtain ⟨Au, cu, rfl⟩ := own_lit hgs.row
    have hS1 : Below w0.heap.size w0 w1 ∧ w1.cell? ⟨r, 0, none⟩ = some (.slice (some ⟨bp, op, none⟩) ps.length cp) := ⟨Bel.trB hS.1 hb1 hS.1.size, hb1.cell hS.2⟩
    refine ⟨_, rfl, hS1, ?_⟩
    replace hS := hS1
    replace HBW := Lib.hid (HBW.out.tr hb1)
    refine rt_take (i := 17) (some 23) (.agg #[.int .i64 num, .int .i64 fn, .slice Au (zeroV ZS).length cu]) rfl rfl (by kernel_rfl) (by kernel_rfl) (by kernel_rfl) (fun _ _ _ h => h) (by kernel_rfl) hS (fun W _ => by kernel_rfl) ?_
    have HB1 := HBW
    refine st_one (i := 18) (by kernel_rfl) ?_
    have hSA : Below w0.heap.size w0 (w1.alloc (.cells #[.int .i64 num, .int .i64 fn, .slice Au (zeroV ZS).length cu] SFT)) ∧ (w1.alloc (.cells #[.int .i64 num, .int .i64 fn, .slice Au (zeroV ZS).length cu] SFT)).cell? ⟨r, 0, none⟩ = some (.slice (some ⟨bp, op, none⟩) ps.length cp) := ⟨Below.alloc hS.1 hS.1.size _, ((Bel.rfl_ _).al _).cell hS.2⟩
    refine st_to (i := 18) (some 24) rfl rfl (by kernel_rfl) (.slice (some ⟨w1.heap.size, 0, none⟩) 1 1) (w1.alloc (.cells #[.int .i64 num, .int .i64 fn, .slice Au (zeroV ZS).length cu] SFT)) (by kernel_rfl) hSA ?_
    replace hS := hSA
    refine st_one (i := 19) (by kernel_rfl) ?_
    refine wpOp_step (by rfl) fun K hK => ?_
    refine step_app w1 rfl (.tmp 10) (.tmp 24) 66 rfl w0.heap.size elSF (.slice Af xs.length cf) xs.length (fxC xs) (by kernel_rfl) (HB1.out.own HD.out.row) [.int .i64 num, .int .i64 fn, .slice Au (zeroV ZS).length cu] w1.heap.size rfl (by kernel_rfl) rfl (by simp [Value.oneCell']) (by have := HXL.out; simp only [maxLen]; omega) (by have := HXL.out; omega) (Nat.le_trans HD.out.bel.size HB1.out.size) ?_ rfl
    intro gg cap W2 ho2 hg2 _
    have hRD := HD.out.push HB1.out (hgs.base HWD.out) (Bel.rfl_ w1) hg2 ho2
    have hbel : Below w0.heap.size w0 W2 := Below.grown (Bel.trB HD.out.bel HB1.out HD.out.bel.size) hg2 (Nat.le_trans HD.out.bel.size HB1.out.size) (fun k hk => ((HB1.out.own HD.out.row).lt k hk).1)
    have hbk := (HR0.out.keep HB1.out).grown hg2 (Blk.ne_own (HR0.out.keep HB1.out) (HB1.out.own HD.out.row) (by decide))
    have hS2 : Below w0.heap.size w0 W2 ∧ W2.cell? ⟨r, 0, none⟩ = some (.slice (some ⟨bp, op, none⟩) ps.length cp) := ⟨hbel, hbk.cell (i := 0) rfl⟩
    refine hK _ _ ⟨hS2, ?_⟩
    replace hS := hS2
    refine rt_take (i := 20) (some 26) (.pointer (some ⟨r, 0, none⟩)) rfl rfl (by kernel_rfl) (by kernel_rfl) (by kernel_rfl) (fun _ _ _ h => h) (by kernel_rfl) hS (fun W _ => by kernel_rfl) ?_
    refine rt_take (i := 21) (some 27) (.pointer (some ⟨r, 1, none⟩)) rfl rfl (by kernel_rfl) (by kernel_rfl) (by kernel_rfl) (fun _ _ _ h => h) (by kernel_rfl) hS (fun W _ => by kernel_rfl) ?_
    refine st_one (i := 22) (by kernel_rfl) ?_
    refine st_sto (i := 22) none rfl rfl (by kernel_rfl) (W2.setCell ⟨r, 1, none⟩ (.slice (some ⟨gg, 0, none⟩) (xs.length + 1) cap)) (rs_fr rfl (by kernel_rfl) (by kernel_rfl) (hbk.cell (i := 1) rfl) (hbk.frozen 1)) ⟨hRD.bel, hRD.blk.cell (i := 0) rfl⟩ ?_
    refine wpAnyH_done (by kernel_rfl) ?_ _
    try simp only [Act.put, List.setIfInBounds_toArray, List.set_cons_zero, List.set_cons_succ]
    have HRD := Lib.hid hRD
    clear hRD hS hS2 hbk hbel hg2 ho2 hgs HB1 HBW
    generalize W2.setCell ⟨r, 1, none⟩ (.slice (some ⟨gg, 0, none⟩) (xs.length + 1) cap) = W3 at *
    have r2 := HRD.out.blk.cell (i := 2) (v := .slice An s.fns.length cn) rfl
    go_wp2_with (at_builtin; go_loud (refine wpl_app W3 rfl (.tmp 32) (.tmp 34) 23 rfl w0.heap.size elI (.slice An s.fns.length cn) s.fns.length _ rfl HRD.out.fns [.int .i64 fn] rfl rfl (by simp [Value.oneCell']) (by have := HL2.out; simp only [maxLen]; omega) (by have := HL2.out; omega) HRD.out.bel.size ?_); intro g5 cap5 w5 ho5 hg5 hn5; have hRN := HRD.out.note (Bel.rfl_ W3) hg5 ho5 (fun g h => by have h6 : g5 = g := Option.some.inj h; subst h6; exact hn5); have hbk5 := HRD.out.blk.grown hg5 (Blk.ne_own HRD.out.blk HRD.out.fns (by decide)); have r25 := hbk5.cell (i := 2) (v := .slice An s.fns.length cn) rfl; have rf5 := hbk5.frozen 2; have HRN := Lib.hid hRN; clear hRN hbk5 ho5 hg5 hn5 r2)
    exact bodyPost_end (v := .tuple #[]) (results_none rfl _ _ _) rfl ⟨rfl, _, _, _, _, HRN.out⟩
  · skip
    refine st_call (i := 16) (some 22) rfl rfl (by kernel_rfl) 86 #[.slice Az ZS.length cz] (by kernel_rfl) (HCL.out wd hS.1) ?_
    rintro x1 w1 ⟨u, rfl, hu, hb1⟩
    obtain ⟨gs, hgs⟩ := hu
    obtain ⟨Au, cu, rfl⟩ := own_lit hgs.row
    have hS1 : Below w0.heap.size w0 w1 ∧ w1.cell? ⟨r, 0, none⟩ = some (.slice (some ⟨bp, op, none⟩) ps.length cp) := ⟨Bel.trB hS.1 hb1 hS.1.size, hb1.cell hS.2⟩
    refine ⟨_, rfl, hS1, ?_⟩
    replace hS := hS1
    replace HBW := Lib.hid (HBW.out.tr hb1)
    refine rt_take (i := 17) (some 23) (.agg #[.int .i64 num, .int .i64 fn, .slice Au (zeroV ZS).length cu]) rfl rfl (by kernel_rfl) (by kernel_rfl) (by kernel_rfl) (fun _ _ _ h => h) (by kernel_rfl) hS (fun W _ => by kernel_rfl) ?_
    have HB1 := HBW
    refine st_two (i := 4) (j := 18) (by kernel_rfl) ?_ ?_
    · skip
      refine st_to (i := 4) (some 10) rfl rfl (by kernel_rfl) (.slice Af xs.length cf) w1 (rl_fr rfl (by kernel_rfl) ((HR0.out.keep (HB1.out)).cell (i := 1) rfl)) hS ?_
      refine st_one (i := 18) (by kernel_rfl) ?_
      have hSA : Below w0.heap.size w0 (w1.alloc (.cells #[.int .i64 num, .int .i64 fn, .slice Au (zeroV ZS).length cu] SFT)) ∧ (w1.alloc (.cells #[.int .i64 num, .int .i64 fn, .slice Au (zeroV ZS).length cu] SFT)).cell? ⟨r, 0, none⟩ = some (.slice (some ⟨bp, op, none⟩) ps.length cp) := ⟨Below.alloc hS.1 hS.1.size _, ((Bel.rfl_ _).al _).cell hS.2⟩
      refine st_to (i := 18) (some 24) rfl rfl (by kernel_rfl) (.slice (some ⟨w1.heap.size, 0, none⟩) 1 1) (w1.alloc (.cells #[.int .i64 num, .int .i64 fn, .slice Au (zeroV ZS).length cu] SFT)) (by kernel_rfl) hSA ?_
      replace hS := hSA
      refine st_one (i := 19) (by kernel_rfl) ?_
      refine wpOp_step (by rfl) fun K hK => ?_
      refine step_app w1 rfl (.tmp 10) (.tmp 24) 66 rfl w0.heap.size elSF (.slice Af xs.length cf) xs.length (fxC xs) (by kernel_rfl) (HB1.out.own HD.out.row) [.int .i64 num, .int .i64 fn, .slice Au (zeroV ZS).length cu] w1.heap.size rfl (by kernel_rfl) rfl (by simp [Value.oneCell']) (by have := HXL.out; simp only [maxLen]; omega) (by have := HXL.out; omega) (Nat.le_trans HD.out.bel.size HB1.out.size) ?_ rfl
      intro gg cap W2 ho2 hg2 _
      have hRD := HD.out.push HB1.out (hgs.base HWD.out) (Bel.rfl_ w1) hg2 ho2
      have hbel : Below w0.heap.size w0 W2 := Below.grown (Bel.trB HD.out.bel HB1.out HD.out.bel.size) hg2 (Nat.le_trans HD.out.bel.size HB1.out.size) (fun k hk => ((HB1.out.own HD.out.row).lt k hk).1)
      have hbk := (HR0.out.keep HB1.out).grown hg2 (Blk.ne_own (HR0.out.keep HB1.out) (HB1.out.own HD.out.row) (by decide))
      have hS2 : Below w0.heap.size w0 W2 ∧ W2.cell? ⟨r, 0, none⟩ = some (.slice (some ⟨bp, op, none⟩) ps.length cp) := ⟨hbel, hbk.cell (i := 0) rfl⟩
      refine hK _ _ ⟨hS2, ?_⟩
      replace hS := hS2
      refine rt_take (i := 20) (some 26) (.pointer (some ⟨r, 0, none⟩)) rfl rfl (by kernel_rfl) (by kernel_rfl) (by kernel_rfl) (fun _ _ _ h => h) (by kernel_rfl) hS (fun W _ => by kernel_rfl) ?_
      refine rt_take (i := 21) (some 27) (.pointer (some ⟨r, 1, none⟩)) rfl rfl (by kernel_rfl) (by kernel_rfl) (by kernel_rfl) (fun _ _ _ h => h) (by kernel_rfl) hS (fun W _ => by kernel_rfl) ?_
      refine st_one (i := 22) (by kernel_rfl) ?_
      refine st_sto (i := 22) none rfl rfl (by kernel_rfl) (W2.setCell ⟨r, 1, none⟩ (.slice (some ⟨gg, 0, none⟩) (xs.length + 1) cap)) (rs_fr rfl (by kernel_rfl) (by kernel_rfl) (hbk.cell (i := 1) rfl) (hbk.frozen 1)) ⟨hRD.bel, hRD.blk.cell (i := 0) rfl⟩ ?_
      refine wpAnyH_done (by kernel_rfl) ?_ _
      try simp only [Act.put, List.setIfInBounds_toArray, List.set_cons_zero, List.set_cons_succ]
      have HRD := Lib.hid hRD
      clear hRD hS hS2 hbk hbel hg2 ho2 hgs HB1 HBW
      generalize W2.setCell ⟨r, 1, none⟩ (.slice (some ⟨gg, 0, none⟩) (xs.length + 1) cap) = W3 at *
      have r2 := HRD.out.blk.cell (i := 2) (v := .slice An s.fns.length cn) rfl
      go_wp2_with (at_builtin; go_loud (refine wpl_app W3 rfl (.tmp 32) (.tmp 34) 23 rfl w0.heap.size elI (.slice An s.fns.length cn) s.fns.length _ rfl HRD.out.fns [.int .i64 fn] rfl rfl (by simp [Value.oneCell']) (by have := HL2.out; simp only [maxLen]; omega) (by have := HL2.out; omega) HRD.out.bel.size ?_); intro g5 cap5 w5 ho5 hg5 hn5; have hRN := HRD.out.note (Bel.rfl_ W3) hg5 ho5 (fun g h => by have h6 : g5 = g := Option.some.inj h; subst h6; exact hn5); have hbk5 := HRD.out.blk.grown hg5 (Blk.ne_own HRD.out.blk HRD.out.fns (by decide)); have r25 := hbk5.cell (i := 2) (v := .slice An s.fns.length cn) rfl; have rf5 := hbk5.frozen 2; have HRN := Lib.hid hRN; clear hRN hbk5 ho5 hg5 hn5 r2)
      exact bodyPost_end (v := .tuple #[]) (results_none rfl _ _ _) rfl ⟨rfl, _, _, _, _, HRN.out⟩
    · skip
      have hSA : Below w0.heap.size w0 (w1.alloc (.cells #[.int .i64 num, .int .i64 fn, .slice Au (zeroV ZS).length cu] SFT)) ∧ (w1.alloc (.cells #[.int .i64 num, .int .i64 fn, .slice Au (zeroV ZS).length cu] SFT)).cell? ⟨r, 0, none⟩ = some (.slice (some ⟨bp, op, none⟩) ps.length cp) := ⟨Below.alloc hS.1 hS.1.size _, ((Bel.rfl_ _).al _).cell hS.2⟩
      refine st_to (i := 18) (some 24) rfl rfl (by kernel_rfl) (.slice (some ⟨w1.heap.size, 0, none⟩) 1 1) (w1.alloc (.cells #[.int .i64 num, .int .i64 fn, .slice Au (zeroV ZS).length cu] SFT)) (by kernel_rfl) hSA ?_
      replace hS := hSA
      refine st_one (i := 4) (by kernel_rfl) ?_
      refine st_to (i := 4) (some 10) rfl rfl (by kernel_rfl) (.slice Af xs.length cf) (w1.alloc (.cells #[.int .i64 num, .int .i64 fn, .slice Au (zeroV ZS).length cu] SFT)) (rl_fr rfl (by kernel_rfl) ((HR0.out.keep (HB1.out.al _)).cell (i := 1) rfl)) hS ?_
      refine st_one (i := 19) (by kernel_rfl) ?_
      refine wpOp_step (by rfl) fun K hK => ?_
      refine step_app w1 rfl (.tmp 10) (.tmp 24) 66 rfl w0.heap.size elSF (.slice Af xs.length cf) xs.length (fxC xs) (by kernel_rfl) (HB1.out.own HD.out.row) [.int .i64 num, .int .i64 fn, .slice Au (zeroV ZS).length cu] w1.heap.size rfl (by kernel_rfl) rfl (by simp [Value.oneCell']) (by have := HXL.out; simp only [maxLen]; omega) (by have := HXL.out; omega) (Nat.le_trans HD.out.bel.size HB1.out.size) ?_ rfl
      intro gg cap W2 ho2 hg2 _
      have hRD := HD.out.push HB1.out (hgs.base HWD.out) (Bel.rfl_ w1) hg2 ho2
      have hbel : Below w0.heap.size w0 W2 := Below.grown (Bel.trB HD.out.bel HB1.out HD.out.bel.size) hg2 (Nat.le_trans HD.out.bel.size HB1.out.size) (fun k hk => ((HB1.out.own HD.out.row).lt k hk).1)
      have hbk := (HR0.out.keep HB1.out).grown hg2 (Blk.ne_own (HR0.out.keep HB1.out) (HB1.out.own HD.out.row) (by decide))
      have hS2 : Below w0.heap.size w0 W2 ∧ W2.cell? ⟨r, 0, none⟩ = some (.slice (some ⟨bp, op, none⟩) ps.length cp) := ⟨hbel, hbk.cell (i := 0) rfl⟩
      refine hK _ _ ⟨hS2, ?_⟩
      replace hS := hS2
      refine rt_take (i := 20) (some 26) (.pointer (some ⟨r, 0, none⟩)) rfl rfl (by kernel_rfl) (by kernel_rfl) (by kernel_rfl) (fun _ _ _ h => h) (by kernel_rfl) hS (fun W _ => by kernel_rfl) ?_
      refine rt_take (i := 21) (some 27) (.pointer (some ⟨r, 1, none⟩)) rfl rfl (by kernel_rfl) (by kernel_rfl) (by kernel_rfl) (fun _ _ _ h => h) (by kernel_rfl) hS (fun W _ => by kernel_rfl) ?_
      refine st_one (i := 22) (by kernel_rfl) ?_
      refine st_sto (i := 22) none rfl rfl (by kernel_rfl) (W2.setCell ⟨r, 1, none⟩ (.slice (some ⟨gg, 0, none⟩) (xs.length + 1) cap)) (rs_fr rfl (by kernel_rfl) (by kernel_rfl) (hbk.cell (i := 1) rfl) (hbk.frozen 1)) ⟨hRD.bel, hRD.blk.cell (i := 0) rfl⟩ ?_
      refine wpAnyH_done (by kernel_rfl) ?_ _
      try simp only [Act.put, List.setIfInBounds_toArray, List.set_cons_zero, List.set_cons_succ]
      have HRD := Lib.hid hRD
      clear hRD hS hS2 hbk hbel hg2 ho2 hgs HB1 HBW
      generalize W2.setCell ⟨r, 1, none⟩ (.slice (some ⟨gg, 0, none⟩) (xs.length + 1) cap) = W3 at *
      have r2 := HRD.out.blk.cell (i := 2) (v := .slice An s.fns.length cn) rfl
      go_wp2_with (at_builtin; go_loud (refine wpl_app W3 rfl (.tmp 32) (.tmp 34) 23 rfl w0.heap.size elI (.slice An s.fns.length cn) s.fns.length _ rfl HRD.out.fns [.int .i64 fn] rfl rfl (by simp [Value.oneCell']) (by have := HL2.out; simp only [maxLen]; omega) (by have := HL2.out; omega) HRD.out.bel.size ?_); intro g5 cap5 w5 ho5 hg5 hn5; have hRN := HRD.out.note (Bel.rfl_ W3) hg5 ho5 (fun g h => by have h6 : g5 = g := Option.some.inj h; subst h6; exact hn5); have hbk5 := HRD.out.blk.grown hg5 (Blk.ne_own HRD.out.blk HRD.out.fns (by decide)); have r25 := hbk5.cell (i := 2) (v := .slice An s.fns.length cn) rfl; have rf5 := hbk5.frozen 2; have HRN := Lib.hid hRN; clear hRN hbk5 ho5 hg5 hn5 r2)
      exact bodyPost_end (v := .tuple #[]) (results_none rfl _ _ _) rfl ⟨rfl, _, _, _, _, HRN.out⟩
end Go.Proofs.Ytgkpplbomciehaa
