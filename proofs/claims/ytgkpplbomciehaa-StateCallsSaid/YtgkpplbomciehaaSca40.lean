/- An event is replayed: walked. Each lemma states its own conditions. -/
import Derived.Test.YtgkpplbomciehaaSca38
import Derived.Test.YtgkpplbomciehaaSca39
namespace Go.Proofs.Ytgkpplbomciehaa
open Go.RowKit
section
variable {o : Oper} {ρ : Operand → Value} {W : World} {x y : Operand} {b f : Nat} {u : Value}
theorem rs_int {n : Int} (ho : o.op = .store 3 x y) (hx : ρ x = .pointer (some ⟨b, f, none⟩)) (hy : ρ y = .int .i64 n) (hc : W.cell? ⟨b, f, none⟩ = some u) (hf : W.frozen? ⟨b, f, none⟩ = false) : (execOp ρ o).run Try.prog W = .ok .skip (W.setCell ⟨b, f, none⟩ (.int .i64 n)) := by
  simp [execOp, ho, hx, hy, hc, hf, go_sem]
theorem rs_cutF {n c : Nat} {j : Int} (ho : o.op = .slice 66 x none (some y) none) (hx : ρ x = .slice (some ⟨b, 0, none⟩) n c) (hy : ρ y = .int .i64 j) (h0 : 0 ≤ j) (h1 : j ≤ c) (hc : 0 < c) : (execOp ρ o).run Try.prog W = .ok (.value (.slice (some ⟨b, 0, none⟩) j.toNat c)) W := by
  have hc0 : ¬ c = 0 := by omega
  simp [execOp, ho, hx, hy, go_sem, h0, h1, hc0]
end
theorem fxC_at {xs : List Fx} {k : Nat} {x : Fx} (h : xs[k]? = some x) {j : Nat} (hj : j < 3) : (fxC xs)[k * 3 + j]? = x.cells[j]? := flatMap_get (enc := Fx.cells) (s := 3) (fun _ => rfl) xs k x j h hj
/-- sizes of the functions' variables -/
def SizesOk (ps : List PF) : Prop := ∀ g ∈ ps, (∀ n ∈ g.sizes, 0 ≤ n ∧ n ≤ 8) ∧ g.sizes.length ≤ 20
theorem Prog.sizes {ps : List PF} (hp : Prog ps) : SizesOk ps := fun g hg => by
  obtain ⟨i, hi⟩ := List.getElem?_of_mem hg
  have h := hp.fns i g hi
  refine ⟨h.sz, ?_⟩
  have := h.var6
  have := h.par3
  omega
set_option maxRecDepth 20000 in
set_option maxHeartbeats 4000000 in
theorem event_any (G : Gst) (w0 : World) (ps : List PF) (r : Nat) (s : Rp) (e : Ev) (w : World) (hM : RepM G w0 ps r w s) (hF : Fit ps s e) (hz : SizesOk ps) (hl : s.frs.length ≤ 100000) (hl2 : s.fns.length ≤ 100000) :
    Calls Try.prog 82 #[.pointer (some ⟨r, 0, none⟩), e.val] w fun x w' => x = .returned (.tuple #[]) ∧ RepM G w0 ps r w' (s.ev ps e) := by
  have HB1 : Hid (Bel w (w.alloc (.cells e.cells.toArray EVT))) := Lib.hid ((Bel.rfl_ w).al _)
  have HK := Lib.hid (Blk.new w EVT e.cells.toArray)
  have HM := Lib.hid (hM.keep HB1.out)
  have c0 := HK.out.cell (i := 0) (v := .int .i64 e.kind) rfl
  have c1 := HK.out.cell (i := 1) (v := .int .i64 e.frame) rfl
  have c2 := HK.out.cell (i := 2) (v := .int .i64 e.at_) rfl
  have c3 := HK.out.cell (i := 3) (v := .int .i64 e.var) rfl
  have c4 := HK.out.cell (i := 4) (v := .int .i64 e.index) rfl
  have c5 := HK.out.cell (i := 5) (v := .int .i64 e.value) rfl
  have HEV : Hid (s.ev ps e = if e.kind = 5 then ⟨s.frs ++ [⟨e.value, e.var, zeroV (ps.getD e.var.toNat noF).sizes⟩], s.fns ++ [e.var]⟩ else if e.kind = 6 then ⟨s.frs.dropLast, s.fns⟩ else if e.kind = 2 then match s.frs.getLast? with
    | some f => ⟨s.frs.dropLast ++ [{ f with vars := setC f.vars e.var e.index e.value }], s.fns⟩
    | none => s
  else s) := Lib.hid rfl
  obtain ⟨F5, F6, F2, -⟩ := hF
  have HF5 := Lib.hid F5
  have HF6 := Lib.hid F6
  have HF2 := Lib.hid F2
  have HZ := Lib.hid hz
  have HL1 := Lib.hid hl
  have HL2 := Lib.hid hl2
  clear hM F5 F6 F2 hz hl hl2
  generalize s.ev ps e = S2 at *
  unfold Ev.val
  unfold Ev.cells at HB1 HK HM c0 c1 c2 c3 c4 c5
  go_enter Try.func82, Try.ntmps82
  go_upto_region 1 with fail
  generalize hW1 : w.alloc _ = W1 at *
  clear hW1
  generalize hKQ : w.heap.size = K at *
  clear hKQ
  by_cases h5 : e.kind = 5
  · have d5 : (e.kind == 5) = true := by rw [h5]; rfl
    have hR : S2 = _ := HEV.out.trans (if_pos h5)
    obtain ⟨-, v0, v1, -⟩ := HF5.out h5
    have hzg := HZ.out _ (List.mem_of_getElem? (Prog.get v0 v1))
    have HEN := Lib.hid (enter_any G w0 ps r s e.value e.var W1 HM.out v0 v1 hzg.1 hzg.2 HL1.out HL2.out)
    rw [← hR] at HEN
    clear h5 hR HEV hzg v0 v1
    go_wp2_with fail
    refine HEN.out.mono ?_
    rintro x w2 ⟨rfl, hM2⟩
    have HM2 := Lib.hid hM2
    clear hM2 c0 c1 c2 c3 c4 c5
    go_wp2
    exact bodyPost_end (v := .tuple #[]) (results_none rfl _ _ _) rfl ⟨rfl, HM2.out⟩
  have d5 : (e.kind == 5) = false := by simpa using h5
  replace HEV := Lib.hid (HEV.out.trans (if_neg h5))
  by_cases h6 : e.kind = 6
  · have d6 : (e.kind == 6) = true := by rw [h6]; rfl
    have HR := Lib.hid (HEV.out.trans (if_pos h6))
    obtain ⟨hf2, f, hf, -⟩ := HF6.out h6
    obtain ⟨vp, vfr, vfn, xs, hD⟩ := HM.out
    have HD := Lib.hid hD
    have hxl := hD.len
    have hxs : 0 < xs.length := by omega
    obtain ⟨ys, x, rfl⟩ : ∃ ys x, xs = ys ++ [x] := ⟨xs.dropLast, xs.getLast (by intro h; rw [h] at hxs; simp at hxs), (List.dropLast_concat_getLast _).symm⟩
    obtain ⟨gf, cf, rfl, -, hcf, hcm, -⟩ := own_lies hD.row hxs
    have hyl : (ys ++ [x]).length = ys.length + 1 := by simp
    have hys : ys.length + 1 ≤ 100000 := by have := HL1.out; omega
    rw [hyl] at hcf
    have HP := Lib.hid (fun (W : World) (hb : Bel W1 W) => (HD.out.keep hb).pop rfl)
    have HRB := Lib.hid hD.blk
    clear h5 h6 HEV hf hf2 hD hxl hxs c1 c2 c3 c4 c5
    simp only [hyl] at HP HRB
    go_upto_region 5 with fail
    refine wp_region_held_drew (S := fun W => True) (by kernel_rfl) trivial (fun hS => ?_)
    have HBW := Lib.hid ((Bel.rfl_ W1).dr)
    generalize W1.drew = wd at *
    have HRW := Lib.hid (HRB.out.keep HBW.out)
    refine rt_take (i := 0) (some 16) (.pointer (some ⟨r, 0, none⟩)) rfl rfl (by kernel_rfl) (by kernel_rfl) (by kernel_rfl) (fun _ _ _ h => h) (by kernel_rfl) hS (fun W _ => by kernel_rfl) ?_
    refine rt_take (i := 1) (some 17) (.pointer (some ⟨r, 0, none⟩)) rfl rfl (by kernel_rfl) (by kernel_rfl) (by kernel_rfl) (fun _ _ _ h => h) (by kernel_rfl) hS (fun W _ => by kernel_rfl) ?_
    refine rt_take (i := 2) (some 18) (.pointer (some ⟨r, 0, none⟩)) rfl rfl (by kernel_rfl) (by kernel_rfl) (by kernel_rfl) (fun _ _ _ h => h) (by kernel_rfl) hS (fun W _ => by kernel_rfl) ?_
    refine rt_take (i := 3) (some 19) (.pointer (some ⟨r, 1, none⟩)) rfl rfl (by kernel_rfl) (by kernel_rfl) (by kernel_rfl) (fun _ _ _ h => h) (by kernel_rfl) hS (fun W _ => by kernel_rfl) ?_
    refine rt_take (i := 5) (some 21) (.pointer (some ⟨r, 0, none⟩)) rfl rfl (by kernel_rfl) (by kernel_rfl) (by kernel_rfl) (fun _ _ _ h => h) (by kernel_rfl) hS (fun W _ => by kernel_rfl) ?_
    refine rt_take (i := 6) (some 22) (.pointer (some ⟨r, 0, none⟩)) rfl rfl (by kernel_rfl) (by kernel_rfl) (by kernel_rfl) (fun _ _ _ h => h) (by kernel_rfl) hS (fun W _ => by kernel_rfl) ?_
    refine rt_take (i := 7) (some 23) (.pointer (some ⟨r, 1, none⟩)) rfl rfl (by kernel_rfl) (by kernel_rfl) (by kernel_rfl) (fun _ _ _ h => h) (by kernel_rfl) hS (fun W _ => by kernel_rfl) ?_
    refine st_two (i := 4) (j := 8) (by kernel_rfl) ?_ ?_
    · skip
      refine st_to (i := 4) (some 20) rfl rfl (by kernel_rfl) (.slice (some ⟨gf, 0, none⟩) (ys.length + 1) cf) wd (rl_fr rfl (by kernel_rfl) (HRW.out.cell (i := 1) rfl)) trivial ?_
      refine st_one (i := 8) (by kernel_rfl) ?_
      refine st_to (i := 8) (some 24) rfl rfl (by kernel_rfl) (.slice (some ⟨gf, 0, none⟩) (ys.length + 1) cf) wd (rl_fr rfl (by kernel_rfl) (HRW.out.cell (i := 1) rfl)) trivial ?_
      refine rt_take (i := 9) (some 25) (.int .i64 (ys.length + 1 : Nat)) rfl rfl (by kernel_rfl) (by kernel_rfl) (by kernel_rfl) (fun _ _ _ h => h) (by kernel_rfl) trivial (fun W _ => by kernel_rfl) ?_
      refine rt_take (i := 10) (some 26) (.int .i64 ys.length) rfl rfl (by kernel_rfl) (by kernel_rfl) (by kernel_rfl) (fun _ _ _ h => h) (by kernel_rfl) trivial (fun W _ => rb_subI (k := (ys.length + 1 : Nat)) (l := 1) rfl (by kernel_rfl) (by kernel_rfl) (by omega) (by omega) (by omega)) ?_
      refine rt_take (i := 11) (some 27) (.slice (some ⟨gf, 0, none⟩) ys.length cf) rfl rfl (by kernel_rfl) (by kernel_rfl) (by kernel_rfl) (fun _ _ _ h => h) (by kernel_rfl) trivial (fun W _ => rs_cutF (b := gf) (n := ys.length + 1) (c := cf) (j := ys.length) rfl (by kernel_rfl) (by kernel_rfl) (by omega) (by omega) (by omega)) ?_
      refine rt_take (i := 12) (some 28) (.pointer (some ⟨r, 0, none⟩)) rfl rfl (by kernel_rfl) (by kernel_rfl) (by kernel_rfl) (fun _ _ _ h => h) (by kernel_rfl) trivial (fun W _ => by kernel_rfl) ?_
      refine rt_take (i := 13) (some 29) (.pointer (some ⟨r, 1, none⟩)) rfl rfl (by kernel_rfl) (by kernel_rfl) (by kernel_rfl) (fun _ _ _ h => h) (by kernel_rfl) trivial (fun W _ => by kernel_rfl) ?_
      refine st_one (i := 14) (by kernel_rfl) ?_
      refine st_sto (i := 14) none rfl rfl (by kernel_rfl) (wd.setCell ⟨r, 1, none⟩ (.slice (some ⟨gf, 0, none⟩) ys.length cf)) (rs_fr rfl (by kernel_rfl) (by kernel_rfl) (HRW.out.cell (i := 1) rfl) (HRW.out.frozen 1)) trivial ?_
      refine wpAnyH_done (by kernel_rfl) ?_ _
      try simp only [Act.put, List.setIfInBounds_toArray, List.set_cons_zero, List.set_cons_succ]
      have hfin := HP.out _ HBW.out
      have HFN := Lib.hid hfin
      clear hfin
      go_wp2
      exact bodyPost_end (v := .tuple #[]) (results_none rfl _ _ _) rfl ⟨rfl, by rw [HR.out]; exact ⟨_, _, _, _, HFN.out⟩⟩
    · skip
      refine st_to (i := 8) (some 24) rfl rfl (by kernel_rfl) (.slice (some ⟨gf, 0, none⟩) (ys.length + 1) cf) wd (rl_fr rfl (by kernel_rfl) (HRW.out.cell (i := 1) rfl)) trivial ?_
      refine rt_take (i := 9) (some 25) (.int .i64 (ys.length + 1 : Nat)) rfl rfl (by kernel_rfl) (by kernel_rfl) (by kernel_rfl) (fun _ _ _ h => h) (by kernel_rfl) trivial (fun W _ => by kernel_rfl) ?_
      refine rt_take (i := 10) (some 26) (.int .i64 ys.length) rfl rfl (by kernel_rfl) (by kernel_rfl) (by kernel_rfl) (fun _ _ _ h => h) (by kernel_rfl) trivial (fun W _ => rb_subI (k := (ys.length + 1 : Nat)) (l := 1) rfl (by kernel_rfl) (by kernel_rfl) (by omega) (by omega) (by omega)) ?_
      refine st_one (i := 4) (by kernel_rfl) ?_
      refine st_to (i := 4) (some 20) rfl rfl (by kernel_rfl) (.slice (some ⟨gf, 0, none⟩) (ys.length + 1) cf) wd (rl_fr rfl (by kernel_rfl) (HRW.out.cell (i := 1) rfl)) trivial ?_
      refine rt_take (i := 11) (some 27) (.slice (some ⟨gf, 0, none⟩) ys.length cf) rfl rfl (by kernel_rfl) (by kernel_rfl) (by kernel_rfl) (fun _ _ _ h => h) (by kernel_rfl) trivial (fun W _ => rs_cutF (b := gf) (n := ys.length + 1) (c := cf) (j := ys.length) rfl (by kernel_rfl) (by kernel_rfl) (by omega) (by omega) (by omega)) ?_
      refine rt_take (i := 12) (some 28) (.pointer (some ⟨r, 0, none⟩)) rfl rfl (by kernel_rfl) (by kernel_rfl) (by kernel_rfl) (fun _ _ _ h => h) (by kernel_rfl) trivial (fun W _ => by kernel_rfl) ?_
      refine rt_take (i := 13) (some 29) (.pointer (some ⟨r, 1, none⟩)) rfl rfl (by kernel_rfl) (by kernel_rfl) (by kernel_rfl) (fun _ _ _ h => h) (by kernel_rfl) trivial (fun W _ => by kernel_rfl) ?_
      refine st_one (i := 14) (by kernel_rfl) ?_
      refine st_sto (i := 14) none rfl rfl (by kernel_rfl) (wd.setCell ⟨r, 1, none⟩ (.slice (some ⟨gf, 0, none⟩) ys.length cf)) (rs_fr rfl (by kernel_rfl) (by kernel_rfl) (HRW.out.cell (i := 1) rfl) (HRW.out.frozen 1)) trivial ?_
      refine wpAnyH_done (by kernel_rfl) ?_ _
      try simp only [Act.put, List.setIfInBounds_toArray, List.set_cons_zero, List.set_cons_succ]
      have hfin := HP.out _ HBW.out
      have HFN := Lib.hid hfin
      clear hfin
      go_wp2
      exact bodyPost_end (v := .tuple #[]) (results_none rfl _ _ _) rfl ⟨rfl, by rw [HR.out]; exact ⟨_, _, _, _, HFN.out⟩⟩
  have d6 : (e.kind == 6) = false := by simpa using h6
  replace HEV := Lib.hid (HEV.out.trans (if_neg h6))
  by_cases h2 : e.kind = 2
  rotate_left
  · have d2 : (e.kind == 2) = false := by simpa using h2
    have HR := Lib.hid (HEV.out.trans (if_neg h2))
    clear h5 h6 h2 HEV
    go_wp2
    exact bodyPost_end (v := .tuple #[]) (results_none rfl _ _ _) rfl ⟨rfl, by rw [HR.out]; exact HM.out⟩
  have d2 : (e.kind == 2) = true := by rw [h2]; rfl
  obtain ⟨f, l, hf, -, v0, hl, i0, i1⟩ := HF2.out h2
  have HR : Hid (S2 = ⟨s.frs.dropLast ++ [{ f with vars := setC f.vars e.var e.index e.value }], s.fns⟩) := Lib.hid (by rw [HEV.out, if_pos h2, hf])
  obtain ⟨vp, vfr, vfn, xs, hD⟩ := HM.out
  have HD := Lib.hid hD
  have hxl := hD.len
  have hxs : 0 < xs.length := by
    rcases Nat.eq_zero_or_pos xs.length with h | h
    · rw [hD.frs, List.eq_nil_of_length_eq_zero h] at hf; simp at hf
    · exact h
  obtain ⟨ys, x, rfl⟩ : ∃ ys x, xs = ys ++ [x] := ⟨xs.dropLast, xs.getLast (by intro h; rw [h] at hxs; simp at hxs), (List.dropLast_concat_getLast _).symm⟩
  obtain rfl : f = x.f := by
    rw [hD.frs, List.map_append, List.map_singleton, List.getLast?_concat] at hf
    exact (Option.some.inj hf).symm
  obtain ⟨gf, cf, rfl, -, hcf, hcm, hcell, cur, hFB⟩ := own_lies hD.row hxs
  have hvx := hD.vars x (by simp)
  obtain ⟨bv, cv, g, hvv, hgs, hvc, -, hG⟩ := hvx.cell hl
  obtain ⟨u, hu⟩ : ∃ u, l[e.index.toNat]? = some u := ⟨_, List.getElem?_eq_getElem (by omega)⟩
  have hyl : (ys ++ [x]).length = ys.length + 1 := by simp
  have q0 : W1.cell? ⟨gf, ys.length * 3 + 2, none⟩ = some (.slice (some ⟨bv, 0, none⟩) x.f.vars.length cv) := by
    have h3 := fxC_at (xs := ys ++ [x]) (k := ys.length) (x := x) (by simp) (j := 2) (by decide)
    have h4 := hcell (ys.length * 3 + 2) x.vv (by rw [h3]; rfl)
    rw [h4, hvv]
  have hvl : e.var < x.f.vars.length := by have := (List.getElem?_eq_some_iff.1 hl).1; omega
  have HWR := Lib.hid (fun (W : World) (hb : Bel W1 W) => (HD.out.keep hb).write (i := e.index) rfl hl hgs e.value)
  have HRB := Lib.hid hD.blk
  have HG := Lib.hid hG
  have HFB : Hid (Blk W1 gf SFT cur) := Lib.hid hFB
  have HQ0 := Lib.hid q0
  have HVC := Lib.hid hvc
  obtain ⟨curv, hVB⟩ : ∃ cur, Blk W1 bv INTS cur := by
    obtain ⟨b9, c9, h9, -, -, -, -, cur9, h8⟩ := own_lies hvx.row (by omega)
    rw [hvv] at h9
    injection h9 with h9
    injection h9 with h9
    injection h9 with h9
    subst h9
    exact ⟨cur9, h8⟩
  have HVB := Lib.hid hVB
  have HLU := Lib.hid hu
  have hln : l.length ≤ maxLen := by
    obtain ⟨-, h, -⟩ := hvx.blk _ _ _ hgs hl
    exact h
  rw [hyl] at hcf
  have hys : ys.length + 1 ≤ 100000 := by have := HL1.out; omega
  clear h5 h6 h2 HEV hf hD hxl hxs hcell hvx hvv hgs hvc hG hFB hVB hu q0 hl
  simp only [hyl] at HWR HRB
  have i7 : (ys.length : Int) < ys.length + 1 := by omega
  have i8 : (0 : Int) ≤ ys.length := by omega
  go_upto_region 7 with fail
  have HBW := Lib.hid ((Bel.rfl_ W1).dr)
  refine wp_region_held_drew (S := fun W => W.cell? ⟨r, 1, none⟩ = some (.slice (some ⟨gf, 0, none⟩) (ys.length + 1) cf) ∧ W.cell? ⟨gf, ys.length * 3 + 2, none⟩ = some (.slice (some ⟨bv, 0, none⟩) x.f.vars.length cv) ∧ W.cell? ⟨bv, e.var.toNat, none⟩ = some (.slice (some ⟨g, 0, none⟩) l.length l.length) ∧ W.cell? ⟨K, 3, none⟩ = some (.int .i64 e.var) ∧ W.cell? ⟨K, 4, none⟩ = some (.int .i64 e.index) ∧ W.cell? ⟨K, 5, none⟩ = some (.int .i64 e.value)) (by kernel_rfl) ⟨(HRB.out.keep HBW.out).cell (i := 1) rfl, HBW.out.cell HQ0.out, HBW.out.cell HVC.out, (HK.out.keep HBW.out).cell (i := 3) rfl, (HK.out.keep HBW.out).cell (i := 4) rfl, (HK.out.keep HBW.out).cell (i := 5) rfl⟩ (fun hS => ?_)
  generalize W1.drew = wd at *
  refine rt_take (i := 0) (some 32) (.pointer (some ⟨r, 0, none⟩)) rfl rfl (by kernel_rfl) (by kernel_rfl) (by kernel_rfl) (fun _ _ _ h => h) (by kernel_rfl) hS (fun W _ => by kernel_rfl) ?_
  refine rt_take (i := 1) (some 33) (.pointer (some ⟨r, 0, none⟩)) rfl rfl (by kernel_rfl) (by kernel_rfl) (by kernel_rfl) (fun _ _ _ h => h) (by kernel_rfl) hS (fun W _ => by kernel_rfl) ?_
  refine rt_take (i := 2) (some 34) (.pointer (some ⟨r, 1, none⟩)) rfl rfl (by kernel_rfl) (by kernel_rfl) (by kernel_rfl) (fun _ _ _ h => h) (by kernel_rfl) hS (fun W _ => by kernel_rfl) ?_
  refine rt_take (i := 3) (some 35) (.slice (some ⟨gf, 0, none⟩) (ys.length + 1) cf) rfl rfl (by kernel_rfl) (by kernel_rfl) (by kernel_rfl) (fun _ _ _ h => h) (by kernel_rfl) hS (fun W hb => rl_fr rfl (by kernel_rfl) hb.1) ?_
  refine rt_take (i := 4) (some 36) (.pointer (some ⟨r, 0, none⟩)) rfl rfl (by kernel_rfl) (by kernel_rfl) (by kernel_rfl) (fun _ _ _ h => h) (by kernel_rfl) hS (fun W _ => by kernel_rfl) ?_
  refine rt_take (i := 5) (some 37) (.pointer (some ⟨r, 0, none⟩)) rfl rfl (by kernel_rfl) (by kernel_rfl) (by kernel_rfl) (fun _ _ _ h => h) (by kernel_rfl) hS (fun W _ => by kernel_rfl) ?_
  refine rt_take (i := 6) (some 38) (.pointer (some ⟨r, 1, none⟩)) rfl rfl (by kernel_rfl) (by kernel_rfl) (by kernel_rfl) (fun _ _ _ h => h) (by kernel_rfl) hS (fun W _ => by kernel_rfl) ?_
  refine rt_take (i := 7) (some 39) (.slice (some ⟨gf, 0, none⟩) (ys.length + 1) cf) rfl rfl (by kernel_rfl) (by kernel_rfl) (by kernel_rfl) (fun _ _ _ h => h) (by kernel_rfl) hS (fun W hb => rl_fr rfl (by kernel_rfl) hb.1) ?_
  refine rt_take (i := 8) (some 40) (.int .i64 (ys.length + 1)) rfl rfl (by kernel_rfl) (by kernel_rfl) (by kernel_rfl) (fun _ _ _ h => h) (by kernel_rfl) hS (fun W _ => by kernel_rfl) ?_
  refine rt_take (i := 9) (some 41) (.int .i64 ys.length) rfl rfl (by kernel_rfl) (by kernel_rfl) (by kernel_rfl) (fun _ _ _ h => h) (by kernel_rfl) hS (fun W _ => rb_subI (k := (ys.length + 1 : Nat)) (l := 1) rfl (by kernel_rfl) (by kernel_rfl) (by omega) (by omega) (by omega)) ?_
  refine rt_take (i := 10) (some 42) (.pointer (some ⟨gf, ys.length * 3, none⟩)) rfl rfl (by kernel_rfl) (by kernel_rfl) (by kernel_rfl) (fun _ _ _ h => h) (by kernel_rfl) hS (fun W _ => by go_simp) ?_
  refine rt_take (i := 11) (some 43) (.pointer (some ⟨gf, ys.length * 3 + 2, none⟩)) rfl rfl (by kernel_rfl) (by kernel_rfl) (by kernel_rfl) (fun _ _ _ h => h) (by kernel_rfl) hS (fun W _ => by kernel_rfl) ?_
  refine rt_take (i := 12) (some 44) (.slice (some ⟨bv, 0, none⟩) x.f.vars.length cv) rfl rfl (by kernel_rfl) (by kernel_rfl) (by kernel_rfl) (fun _ _ _ h => h) (by kernel_rfl) hS (fun W hb => rl_vv rfl (by kernel_rfl) hb.2.1) ?_
  refine rt_take (i := 13) (some 45) (.pointer (some ⟨K, 3, none⟩)) rfl rfl (by kernel_rfl) (by kernel_rfl) (by kernel_rfl) (fun _ _ _ h => h) (by kernel_rfl) hS (fun W _ => by kernel_rfl) ?_
  refine rt_take (i := 14) (some 46) (.int .i64 e.var) rfl rfl (by kernel_rfl) (by kernel_rfl) (by kernel_rfl) (fun _ _ _ h => h) (by kernel_rfl) hS (fun W hb => rl_int rfl (by kernel_rfl) hb.2.2.2.1) ?_
  refine rt_take (i := 15) (some 47) (.pointer (some ⟨bv, e.var.toNat, none⟩)) rfl rfl (by kernel_rfl) (by kernel_rfl) (by kernel_rfl) (fun _ _ _ h => h) (by kernel_rfl) hS (fun W _ => by go_simp) ?_
  refine rt_take (i := 16) (some 48) (.slice (some ⟨g, 0, none⟩) l.length l.length) rfl rfl (by kernel_rfl) (by kernel_rfl) (by kernel_rfl) (fun _ _ _ h => h) (by kernel_rfl) hS (fun W hb => rl_is rfl (by kernel_rfl) hb.2.2.1) ?_
  refine rt_take (i := 17) (some 49) (.pointer (some ⟨K, 4, none⟩)) rfl rfl (by kernel_rfl) (by kernel_rfl) (by kernel_rfl) (fun _ _ _ h => h) (by kernel_rfl) hS (fun W _ => by kernel_rfl) ?_
  refine rt_take (i := 18) (some 50) (.int .i64 e.index) rfl rfl (by kernel_rfl) (by kernel_rfl) (by kernel_rfl) (fun _ _ _ h => h) (by kernel_rfl) hS (fun W hb => rl_int rfl (by kernel_rfl) hb.2.2.2.2.1) ?_
  refine rt_take (i := 19) (some 51) (.pointer (some ⟨K, 5, none⟩)) rfl rfl (by kernel_rfl) (by kernel_rfl) (by kernel_rfl) (fun _ _ _ h => h) (by kernel_rfl) hS (fun W _ => by kernel_rfl) ?_
  refine rt_take (i := 20) (some 52) (.int .i64 e.value) rfl rfl (by kernel_rfl) (by kernel_rfl) (by kernel_rfl) (fun _ _ _ h => h) (by kernel_rfl) hS (fun W hb => rl_int rfl (by kernel_rfl) hb.2.2.2.2.2) ?_
  refine rt_take (i := 21) (some 53) (.pointer (some ⟨g, e.index.toNat, none⟩)) rfl rfl (by kernel_rfl) (by kernel_rfl) (by kernel_rfl) (fun _ _ _ h => h) (by kernel_rfl) hS (fun W _ => by go_simp) ?_
  have hGW := HG.out.keep HBW.out
  have hne : ∀ {b : Nat} {ty : TypeId} {cs : Array Value}, Blk W1 b ty cs → ty ≠ INT → ∀ k v, wd.cell? ⟨b, k, none⟩ = some v → (wd.setCell ⟨g, e.index.toNat, none⟩ (.int .i64 e.value)).cell? ⟨b, k, none⟩ = some v := fun hb ht k v hv => by
    have hbb := (hb.keep HBW.out).ne hGW ht
    rw [← hv]
    exact World.cell?_setCell_far _ _ _ _ (fun e => hbb e.symm)
  refine st_one (i := 22) (by kernel_rfl) ?_
  refine st_sto (i := 22) none rfl rfl (by kernel_rfl) (wd.setCell ⟨g, e.index.toNat, none⟩ (.int .i64 e.value)) (rs_int rfl (by kernel_rfl) (by kernel_rfl) (hGW.cell (v := .int .i64 u) (by unfold intCells; simp [HLU.out])) (hGW.frozen _)) ⟨hne HRB.out (by decide) _ _ hS.1, hne HFB.out (by decide) _ _ hS.2.1, hne HVB.out (by decide) _ _ hS.2.2.1, hne HK.out (by decide) _ _ hS.2.2.2.1, hne HK.out (by decide) _ _ hS.2.2.2.2.1, hne HK.out (by decide) _ _ hS.2.2.2.2.2⟩ ?_
  refine wpAnyH_done (by kernel_rfl) ?_ _
  try simp only [Act.put, List.setIfInBounds_toArray, List.set_cons_zero, List.set_cons_succ]
  have hfin := HWR.out _ HBW.out
  have HFN := Lib.hid hfin
  clear hfin hne hGW hS
  go_wp2
  exact bodyPost_end (v := .tuple #[]) (results_none rfl _ _ _) rfl ⟨rfl, by rw [HR.out]; exact ⟨_, _, _, _, HFN.out⟩⟩
end Go.Proofs.Ytgkpplbomciehaa
