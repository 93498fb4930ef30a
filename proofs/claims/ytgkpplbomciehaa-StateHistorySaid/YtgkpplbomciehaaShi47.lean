/- What a variable's history says of the frames that there are: walked. Each lemma states its own conditions. -/
import Derived.Test.YtgkpplbomciehaaShi46
namespace Go.Proofs.Ytgkpplbomciehaa
open Go.RowKit
/-- does it count? -/
def inH (num T : Int) (x : Hv) : Bool := x.frame == num && decide (x.time < T)
def cellsK (h : List Hv) (num T : Int) (n k : Nat) : List Int := ((h.take k).filter (inH num T)).foldl putH (List.replicate n 0)
theorem cellsK_len (h : List Hv) (num T : Int) (n k : Nat) : (cellsK h num T n k).length = n := by
  unfold cellsK
  rw [putH_len, List.length_replicate]
theorem cellsK_snoc {h : List Hv} {num T : Int} {n k : Nat} {x : Hv} (hx : h[k]? = some x) : cellsK h num T n (k + 1) = if inH num T x then putH (cellsK h num T n k) x else cellsK h num T n k := by
  unfold cellsK
  rw [take_snoc hx, List.filter_append, List.foldl_append]
  cases hb : inH num T x with
  | true => rw [List.filter_cons_of_pos hb]; rfl
  | false => rw [List.filter_cons_of_neg (by rw [hb]; decide)]; rfl
theorem rb_lts {o : Oper} {ρ : Operand → Value} {W : World} {x y : Operand} {n m : Int} (ho : o.op = .binOp .lss 3 x y 3) (hx : ρ x = .int .i64 n) (hy : ρ y = .int .i64 m) {r : Bool} (h : decide (n < m) = r) : (execOp ρ o).run Try.prog W = .ok (.value (.bool r)) W := by
  subst h
  simp [execOp, ho, hx, hy, go_sem]
set_option maxRecDepth 20000 in
set_option maxHeartbeats 8000000 in
theorem history_any (ps : List PF) (l : List Ev) (T fn v : Int) (vp vl : Value) (w : World) (h : Sl pfR w vp ps) (hl : Sl evR w vl l) : Calls Try.prog 11 #[.agg #[vp], vl, .int .i64 T, .int .i64 fn, .int .i64 v] w fun x w' => x = .returned (.bool true) ∧ Bel w w' := by
  have HSL := Lib.hid h
  have HEV := Lib.hid hl
  obtain ⟨A, c, rfl, -⟩ := sl_lit h
  obtain ⟨Ae, ce, rfl, hll⟩ := sl_lit hl
  have HB1 : Hid (Bel w (w.alloc (.cells #[.slice A ps.length c] PGT))) := Lib.hid ((Bel.rfl_ w).al _)
  have HP1 := Lib.hid (Blk.new w PGT #[.slice A ps.length c])
  have HAT := Lib.hid (fun W (hb : Bel w W) => stAt_any ps l T _ _ W (HSL.out.keep hb) (HEV.out.keep hb))
  have HHI := Lib.hid (fun W (hb : Bel w W) => stHist_any ps l fn v _ _ W (HSL.out.keep hb) (HEV.out.keep hb))
  have HOK := Lib.hid (@hist_ok ps l fn v T)
  have HV0 := Lib.hid (fun (h : histE ps l fn v = 0) => (histE_ok h).2.2.2.1)
  clear h hl
  generalize atE ps l T = E1 at *
  generalize histE ps l fn v = E2 at *
  generalize frsAt ps l T = FS at *
  generalize histTo ps l fn v l.length = HH at *
  go_enter Try.func11, Try.ntmps11
  go_wp2_with fail
  refine (stateBegun_any _).mono ?_
  rintro r w2 ⟨rfl, b2⟩
  have HB2 := Lib.hid (HB1.out.tr b2)
  have HP2 := Lib.hid (HP1.out.keep b2)
  clear b2 HP1 HB1
  generalize w.alloc _ = W1 at *
  generalize w.heap.size = Q at *
  have c0 := HP2.out.cell (i := 0) rfl
  go_wp2_with fail
  refine (HAT.out _ HB2.out).mono ?_
  rintro r w3 ⟨b3, va, rfl, -, hok⟩
  have HB3 := Lib.hid (HB2.out.tr b3)
  have HP3 := Lib.hid (HP2.out.keep b3)
  have HF3 := Lib.hid hok
  clear b3 c0 HB2 HP2 HAT hok
  have c0 := HP3.out.cell (i := 0) rfl
  go_wp2_with fail
  refine (HHI.out _ HB3.out).mono ?_
  rintro r w4 ⟨b4, vh, rfl, -, hok⟩
  have HB4 := Lib.hid (HB3.out.tr b4)
  have HF4 := Lib.hid (fun he => (HF3.out he).keep b4)
  have HH4 := Lib.hid hok
  clear b4 c0 HB3 HP3 HHI hok HF3
  by_cases h1 : E1 = 0
  rotate_left
  · have d1 : (E1 != 0) = true := by simpa using h1
    clear h1
    go_wp2
    go_ret
    exact ⟨rfl, HB4.out⟩
  have d1 : (E1 != 0) = false := by simpa using h1
  by_cases h2 : E2 = 0
  rotate_left
  · have d2 : (E2 != 0) = true := by simpa using h2
    clear h2
    go_wp2
    go_ret
    exact ⟨rfl, HB4.out⟩
  have d2 : (E2 != 0) = false := by simpa using h2
  replace HF4 := Lib.hid (HF4.out h1)
  replace HH4 := Lib.hid (HH4.out h2)
  replace HOK := Lib.hid (HOK.out h1 h2)
  have v0 := HV0.out h2
  have dv : decide (v < 0) = false := decide_eq_false (by omega)
  obtain ⟨Af, cf, rfl, hfl⟩ := sl_lit HF4.out
  obtain ⟨Ah, ch, rfl, hhl⟩ := sl_lit HH4.out
  have HR0 := Lib.hid (Bel.rfl_ w4)
  clear h1 h2 HV0
  go_wp2
  go_loopw [15] (fun i wr => ∃ j : Nat, i = .int .i64 j ∧ j ≤ FS.length ∧ Hid (Bel w4 wr)) (fun i _ => FS.length - (intOf i).toNat)
  case atStart => exact ⟨0, rfl, Nat.zero_le _, HR0⟩
  case round =>
    obtain ⟨j, rfl, hj, HB⟩ := hrel
    obtain ⟨WO, hWO⟩ : ∃ W, W = wr := ⟨_, rfl⟩
    subst hWO
    clear HR0
    have i0 : (0 : Int) ≤ j := by omega
    by_cases hlt : j < FS.length
    rotate_left
    · have hdd : decide ((j : Int) < FS.length) = false := decide_eq_false (by omega)
      have HX := Lib.hid (HB4.out.tr HB.out)
      clear hj
      go_wp2
      go_ret
      exact ⟨rfl, HX.out⟩
    have hdd : decide ((j : Int) < FS.length) = true := decide_eq_true (by omega)
    have i1 : (j : Int) < FS.length := by omega
    obtain ⟨f, hf⟩ : ∃ f, FS[j]? = some f := ⟨_, List.getElem?_eq_getElem hlt⟩
    obtain ⟨bf, of_, cs, rfl, hcs, hca⟩ := HF4.out.elem hf
    obtain ⟨vv, rfl, hsv⟩ := hcs
    have q0 : w4.cell? ⟨bf, of_ + j * 3, none⟩ = some (.int .i64 f.num) := hca 0 _ rfl
    have q1 : w4.cell? ⟨bf, of_ + j * 3 + 1, none⟩ = some (.int .i64 f.fn) := hca 1 _ rfl
    have q2 : w4.cell? ⟨bf, of_ + j * 3 + 2, none⟩ = some vv := hca 2 _ rfl
    have r1 := HB.out.cell q1
    have r2 := HB.out.cell q2
    by_cases h3 : f.fn = fn
    rotate_left
    · have d3 : (f.fn != fn) = true := by simpa using h3
      clear hca hsv hf h3 q0 q1 q2 r2
      go_wp2
      go_roundw
      case rel => exact ⟨j + 1, by go_num, by omega, HB⟩
      case measure => simp [intOf]; omega
    have d3 : (f.fn != fn) = false := by simpa using h3
    obtain ⟨L, hL, hL8, hix, hfin⟩ := HOK.out f (List.mem_of_getElem? hf) h3
    have HIX := Lib.hid hix
    have HFIN : Hid (cellsK HH f.num T L.length HH.length = L) := Lib.hid (by unfold cellsK; rw [List.take_length]; exact hfin)
    have hvl := (List.getElem?_eq_some_iff.1 hL).1
    have dv2 : decide ((f.vars.length : Int) ≤ v) = false := decide_eq_false (by omega)
    have dv3 : decide (v ≥ (f.vars.length : Int)) = false := decide_eq_false (by omega)
    have y1 : v < f.vars.length := by omega
    obtain ⟨Av, cv, rfl, -⟩ := sl_lit hsv
    obtain ⟨bv, ov, cs2, rfl, hcs2, hca2⟩ := hsv.elem hL
    obtain ⟨vi, rfl, hsi⟩ := hcs2
    obtain ⟨Ai, ci, rfl, -⟩ := sl_lit hsi
    have q3 : w4.cell? ⟨bv, ov + v.toNat, none⟩ = some (.slice Ai L.length ci) := by have := hca2 0 _ rfl; rwa [show ov + v.toNat * intsR.size + 0 = ov + v.toNat by show ov + v.toNat * 1 + 0 = _; omega] at this
    have r3 := HB.out.cell q3
    have HSI := Lib.hid hsi
    have hmk := mk_ints L.length (by omega) WO
    have HBA : Hid (Bel w4 (WO.alloc (.cells (intCells (List.replicate L.length 0)) INT))) := Lib.hid (HB.out.al _)
    have HG0 : Hid (Blk (WO.alloc (.cells (intCells (List.replicate L.length 0)) INT)) WO.heap.size INT (intCells (cellsK HH f.num T L.length 0))) := Lib.hid (Blk.new WO INT (intCells (List.replicate L.length 0)))
    have HGL := Lib.hid HB.out.size
    have HQ0 := Lib.hid q0
    have HQ2 := Lib.hid q2
    have HQ3 := Lib.hid q3
    clear hca hsv hf h3 q0 q1 q2 q3 hix hfin hvl hca2 hsi hL HOK
    go_upto_region 14 with fail
    generalize hWA : WO.alloc _ = WA at *
    clear hWA hmk r1 r2 r3 HB
    generalize WO.heap.size = G at *
    go_wp2
    have HC0 : Hid (Bel w4 WA) := HBA
    go_loopw [17] (fun i wr => ∃ k : Nat, i = .int .i64 k ∧ k ≤ HH.length ∧ Hid (Bel w4 wr) ∧ Hid (Blk wr G INT (intCells (cellsK HH f.num T L.length k)))) (fun i _ => HH.length - (intOf i).toNat)
    case atStart => exact ⟨0, rfl, Nat.zero_le _, HC0, HG0⟩
    case round =>
      obtain ⟨k, rfl, hk, HB, HG⟩ := hrel
      obtain ⟨WO, hWO⟩ : ∃ W, W = wr := ⟨_, rfl⟩
      subst hWO
      clear HC0 HG0 HBA
      have k0 : (0 : Int) ≤ k := by omega
      by_cases hlk : k < HH.length
      rotate_left
      · have hdk : decide ((k : Int) < HH.length) = false := decide_eq_false (by omega)
        have hkl : k = HH.length := by omega
        subst hkl
        have hG := HG.out
        rw [HFIN.out] at hG
        have HX := Lib.hid hG
        have HSC := Lib.hid (Sl.ints hG (by simp only [maxLen]; omega))
        have HSL2 := Lib.hid (HSI.out.keep HB.out)
        have r0 := HB.out.cell HQ2.out
        have r3 := HB.out.cell HQ3.out
        clear hG HG hk
        go_wp2_with fail
        refine (sameInts_all _ _ L L _ HSC.out HSL2.out).mono ?_
        rintro x w5 ⟨rfl, b5⟩
        rw [decide_eq_true rfl]
        have HB5 := Lib.hid (HB.out.tr b5)
        clear b5 r0 r3 HSC HSL2 HX HB
        go_wp2
        go_roundw
        case rel => exact ⟨j + 1, by go_num, by omega, HB5⟩
        case measure => simp [intOf]; omega
      have hdk : decide ((k : Int) < HH.length) = true := decide_eq_true (by omega)
      have k1 : (k : Int) < HH.length := by omega
      obtain ⟨x, hx⟩ : ∃ x, HH[k]? = some x := ⟨_, List.getElem?_eq_getElem hlk⟩
      have HSN := Lib.hid (cellsK_snoc (num := f.num) (T := T) (n := L.length) hx)
      have hxi := HIX.out x (List.mem_of_getElem? hx)
      obtain ⟨bh, oh, cx, rfl, hcx, hcxa⟩ := HH4.out.elem hx
      obtain rfl : cx = x.cells := hcx
      have p0 : w4.cell? ⟨bh, oh + k * 4, none⟩ = some (.int .i64 x.time) := hcxa 0 _ rfl
      have p1 : w4.cell? ⟨bh, oh + k * 4 + 1, none⟩ = some (.int .i64 x.frame) := hcxa 1 _ rfl
      have p2 : w4.cell? ⟨bh, oh + k * 4 + 2, none⟩ = some (.int .i64 x.index) := hcxa 2 _ rfl
      have p3 : w4.cell? ⟨bh, oh + k * 4 + 3, none⟩ = some (.int .i64 x.value) := hcxa 3 _ rfl
      have P0 := Lib.hid p0
      have P1 := Lib.hid p1
      have P2 := Lib.hid p2
      have P3 := Lib.hid p3
      clear p0 p1 p2 p3 hcxa hx
      obtain ⟨b1, hb1⟩ : ∃ b : Bool, (x.frame == f.num) = b := ⟨_, rfl⟩
      obtain ⟨b2, hb2⟩ : ∃ b : Bool, decide (x.time < T) = b := ⟨_, rfl⟩
      have HIN : Hid (inH f.num T x = (b1 && b2)) := Lib.hid (by unfold inH; rw [hb1, hb2])
      go_upto_region 17 with fail
      cases b1 with
      | false =>
        refine wp_region_held_drew (S := fun W => Bel w4 W) (by kernel_rfl) (HB.out.dr) (fun hS => ?_)
        have HGW := Lib.hid (HG.out.keep ((Bel.rfl_ WO).dr))
        generalize WO.drew = WD at *
        refine rt_take (i := 0) (some 82) (.slice (some ⟨bh, oh, none⟩) HH.length ch) rfl rfl (by kernel_rfl) (by kernel_rfl) (by kernel_rfl) (fun _ _ _ h => h) (by kernel_rfl) hS (fun W _ => by kernel_rfl) ?_
        refine rt_take (i := 1) (some 83) (.int .i64 k) rfl rfl (by kernel_rfl) (by kernel_rfl) (by kernel_rfl) (fun _ _ _ h => h) (by kernel_rfl) hS (fun W _ => by kernel_rfl) ?_
        refine rt_take (i := 2) (some 84) (.pointer (some ⟨bh, oh + k * 4, none⟩)) rfl rfl (by kernel_rfl) (by kernel_rfl) (by kernel_rfl) (fun _ _ _ h => h) (by kernel_rfl) hS (fun W _ => by go_simp) ?_
        refine rt_take (i := 3) (some 85) (.pointer (some ⟨bh, oh + k * 4 + 1, none⟩)) rfl rfl (by kernel_rfl) (by kernel_rfl) (by kernel_rfl) (fun _ _ _ h => h) (by kernel_rfl) hS (fun W _ => by kernel_rfl) ?_
        refine rt_take (i := 4) (some 86) (.int .i64 x.frame) rfl rfl (by kernel_rfl) (by kernel_rfl) (by kernel_rfl) (fun _ _ _ h => h) (by kernel_rfl) hS (fun W hb => rl_int rfl (by kernel_rfl) (hb.cell P1.out)) ?_
        refine rt_take (i := 5) (some 87) (.slice (some ⟨bf, of_, none⟩) FS.length cf) rfl rfl (by kernel_rfl) (by kernel_rfl) (by kernel_rfl) (fun _ _ _ h => h) (by kernel_rfl) hS (fun W _ => by kernel_rfl) ?_
        refine rt_take (i := 6) (some 88) (.int .i64 j) rfl rfl (by kernel_rfl) (by kernel_rfl) (by kernel_rfl) (fun _ _ _ h => h) (by kernel_rfl) hS (fun W _ => by kernel_rfl) ?_
        refine rt_take (i := 7) (some 89) (.pointer (some ⟨bf, of_ + j * 3, none⟩)) rfl rfl (by kernel_rfl) (by kernel_rfl) (by kernel_rfl) (fun _ _ _ h => h) (by kernel_rfl) hS (fun W _ => by go_simp) ?_
        refine rt_take (i := 8) (some 90) (.pointer (some ⟨bf, of_ + j * 3, none⟩)) rfl rfl (by kernel_rfl) (by kernel_rfl) (by kernel_rfl) (fun _ _ _ h => h) (by kernel_rfl) hS (fun W _ => by kernel_rfl) ?_
        refine rt_take (i := 9) (some 91) (.int .i64 f.num) rfl rfl (by kernel_rfl) (by kernel_rfl) (by kernel_rfl) (fun _ _ _ h => h) (by kernel_rfl) hS (fun W hb => rl_int rfl (by kernel_rfl) (hb.cell HQ0.out)) ?_
        refine rt_take (i := 10) (some 92) (.bool false) rfl rfl (by kernel_rfl) (by kernel_rfl) (by kernel_rfl) (fun _ _ _ h => h) (by kernel_rfl) hS (fun W _ => rb_eq rfl (by kernel_rfl) (by kernel_rfl) hb1) ?_
        refine rt_take (i := 11) (some 93) (.bool false) rfl rfl (by kernel_rfl) (by kernel_rfl) (by kernel_rfl) (fun _ _ _ h => h) (by kernel_rfl) hS (fun W _ => by kernel_rfl) ?_
        refine rt_skip (i := 12) (some 94) rfl rfl (by kernel_rfl) (by kernel_rfl) (by kernel_rfl) (fun _ _ _ h => h) (by kernel_rfl) hS ?_
        refine rt_skip (i := 13) (some 95) rfl rfl (by kernel_rfl) (by kernel_rfl) (by kernel_rfl) (fun _ _ _ h => h) (by kernel_rfl) hS ?_
        refine rt_skip (i := 14) (some 96) rfl rfl (by kernel_rfl) (by kernel_rfl) (by kernel_rfl) (fun _ _ _ h => h) (by kernel_rfl) hS ?_
        refine rt_skip (i := 15) (some 97) rfl rfl (by kernel_rfl) (by kernel_rfl) (by kernel_rfl) (fun _ _ _ h => h) (by kernel_rfl) hS ?_
        refine rt_skip (i := 16) (some 98) rfl rfl (by kernel_rfl) (by kernel_rfl) (by kernel_rfl) (fun _ _ _ h => h) (by kernel_rfl) hS ?_
        refine rt_skip (i := 17) (some 99) rfl rfl (by kernel_rfl) (by kernel_rfl) (by kernel_rfl) (fun _ _ _ h => h) (by kernel_rfl) hS ?_
        refine rt_skip (i := 18) (some 100) rfl rfl (by kernel_rfl) (by kernel_rfl) (by kernel_rfl) (fun _ _ _ h => h) (by kernel_rfl) hS ?_
        refine rt_take (i := 19) (some 101) (.bool false) rfl rfl (by kernel_rfl) (by kernel_rfl) (by kernel_rfl) (fun _ _ _ h => h) (by kernel_rfl) hS (fun W _ => by kernel_rfl) ?_
        refine wpAnyH_done (by kernel_rfl) ?_ _
        try simp only [Act.put, List.setIfInBounds_toArray, List.set_cons_zero, List.set_cons_succ]
        have HN : Hid (cellsK HH f.num T L.length (k + 1) = cellsK HH f.num T L.length k) := Lib.hid (by rw [HSN.out, HIN.out]; rfl)
        rw [← HN.out] at HGW
        have HBD := Lib.hid hS
        clear hS HSN HIN HB HG HN
        go_wp2
        go_roundw
        case rel => exact ⟨k + 1, by go_num, by omega, HBD, HGW⟩
        case measure => simp [intOf]; omega
      | true =>
        refine wp_region_held_drew (S := fun W => Bel w4 W) (by kernel_rfl) (HB.out.dr) (fun hS => ?_)
        have HGW := Lib.hid (HG.out.keep ((Bel.rfl_ WO).dr))
        generalize WO.drew = WD at *
        refine rt_take (i := 0) (some 82) (.slice (some ⟨bh, oh, none⟩) HH.length ch) rfl rfl (by kernel_rfl) (by kernel_rfl) (by kernel_rfl) (fun _ _ _ h => h) (by kernel_rfl) hS (fun W _ => by kernel_rfl) ?_
        refine rt_take (i := 1) (some 83) (.int .i64 k) rfl rfl (by kernel_rfl) (by kernel_rfl) (by kernel_rfl) (fun _ _ _ h => h) (by kernel_rfl) hS (fun W _ => by kernel_rfl) ?_
        refine rt_take (i := 2) (some 84) (.pointer (some ⟨bh, oh + k * 4, none⟩)) rfl rfl (by kernel_rfl) (by kernel_rfl) (by kernel_rfl) (fun _ _ _ h => h) (by kernel_rfl) hS (fun W _ => by go_simp) ?_
        refine rt_take (i := 3) (some 85) (.pointer (some ⟨bh, oh + k * 4 + 1, none⟩)) rfl rfl (by kernel_rfl) (by kernel_rfl) (by kernel_rfl) (fun _ _ _ h => h) (by kernel_rfl) hS (fun W _ => by kernel_rfl) ?_
        refine rt_take (i := 4) (some 86) (.int .i64 x.frame) rfl rfl (by kernel_rfl) (by kernel_rfl) (by kernel_rfl) (fun _ _ _ h => h) (by kernel_rfl) hS (fun W hb => rl_int rfl (by kernel_rfl) (hb.cell P1.out)) ?_
        refine rt_take (i := 5) (some 87) (.slice (some ⟨bf, of_, none⟩) FS.length cf) rfl rfl (by kernel_rfl) (by kernel_rfl) (by kernel_rfl) (fun _ _ _ h => h) (by kernel_rfl) hS (fun W _ => by kernel_rfl) ?_
        refine rt_take (i := 6) (some 88) (.int .i64 j) rfl rfl (by kernel_rfl) (by kernel_rfl) (by kernel_rfl) (fun _ _ _ h => h) (by kernel_rfl) hS (fun W _ => by kernel_rfl) ?_
        refine rt_take (i := 7) (some 89) (.pointer (some ⟨bf, of_ + j * 3, none⟩)) rfl rfl (by kernel_rfl) (by kernel_rfl) (by kernel_rfl) (fun _ _ _ h => h) (by kernel_rfl) hS (fun W _ => by go_simp) ?_
        refine rt_take (i := 8) (some 90) (.pointer (some ⟨bf, of_ + j * 3, none⟩)) rfl rfl (by kernel_rfl) (by kernel_rfl) (by kernel_rfl) (fun _ _ _ h => h) (by kernel_rfl) hS (fun W _ => by kernel_rfl) ?_
        refine rt_take (i := 9) (some 91) (.int .i64 f.num) rfl rfl (by kernel_rfl) (by kernel_rfl) (by kernel_rfl) (fun _ _ _ h => h) (by kernel_rfl) hS (fun W hb => rl_int rfl (by kernel_rfl) (hb.cell HQ0.out)) ?_
        refine rt_take (i := 10) (some 92) (.bool true) rfl rfl (by kernel_rfl) (by kernel_rfl) (by kernel_rfl) (fun _ _ _ h => h) (by kernel_rfl) hS (fun W _ => rb_eq rfl (by kernel_rfl) (by kernel_rfl) hb1) ?_
        refine rt_take (i := 11) (some 93) (.bool true) rfl rfl (by kernel_rfl) (by kernel_rfl) (by kernel_rfl) (fun _ _ _ h => h) (by kernel_rfl) hS (fun W _ => by kernel_rfl) ?_
        refine rt_take (i := 12) (some 94) (.slice (some ⟨bh, oh, none⟩) HH.length ch) rfl rfl (by kernel_rfl) (by kernel_rfl) (by kernel_rfl) (fun _ _ _ h => h) (by kernel_rfl) hS (fun W _ => by kernel_rfl) ?_
        refine rt_take (i := 13) (some 95) (.int .i64 k) rfl rfl (by kernel_rfl) (by kernel_rfl) (by kernel_rfl) (fun _ _ _ h => h) (by kernel_rfl) hS (fun W _ => by kernel_rfl) ?_
        refine rt_take (i := 14) (some 96) (.pointer (some ⟨bh, oh + k * 4, none⟩)) rfl rfl (by kernel_rfl) (by kernel_rfl) (by kernel_rfl) (fun _ _ _ h => h) (by kernel_rfl) hS (fun W _ => by go_simp) ?_
        refine rt_take (i := 15) (some 97) (.pointer (some ⟨bh, oh + k * 4, none⟩)) rfl rfl (by kernel_rfl) (by kernel_rfl) (by kernel_rfl) (fun _ _ _ h => h) (by kernel_rfl) hS (fun W _ => by kernel_rfl) ?_
        refine rt_take (i := 16) (some 98) (.int .i64 x.time) rfl rfl (by kernel_rfl) (by kernel_rfl) (by kernel_rfl) (fun _ _ _ h => h) (by kernel_rfl) hS (fun W hb => rl_int rfl (by kernel_rfl) (hb.cell P0.out)) ?_
        refine rt_take (i := 17) (some 99) (.int .i64 T) rfl rfl (by kernel_rfl) (by kernel_rfl) (by kernel_rfl) (fun _ _ _ h => h) (by kernel_rfl) hS (fun W _ => by kernel_rfl) ?_
        refine rt_take (i := 18) (some 100) (.bool b2) rfl rfl (by kernel_rfl) (by kernel_rfl) (by kernel_rfl) (fun _ _ _ h => h) (by kernel_rfl) hS (fun W _ => rb_lts rfl (by kernel_rfl) (by kernel_rfl) hb2) ?_
        refine rt_take (i := 19) (some 101) (.bool b2) rfl rfl (by kernel_rfl) (by kernel_rfl) (by kernel_rfl) (fun _ _ _ h => h) (by kernel_rfl) hS (fun W _ => by kernel_rfl) ?_
        refine wpAnyH_done (by kernel_rfl) ?_ _
        try simp only [Act.put, List.setIfInBounds_toArray, List.set_cons_zero, List.set_cons_succ]
        cases b2 with
        | false =>
          have HN : Hid (cellsK HH f.num T L.length (k + 1) = cellsK HH f.num T L.length k) := Lib.hid (by rw [HSN.out, HIN.out]; rfl)
          rw [← HN.out] at HGW
          have HBD := Lib.hid hS
          clear hS HSN HIN HB HG HN
          go_wp2
          go_roundw
          case rel => exact ⟨k + 1, by go_num, by omega, HBD, HGW⟩
          case measure => simp [intOf]; omega
        | true =>
          have HN : Hid (cellsK HH f.num T L.length (k + 1) = putH (cellsK HH f.num T L.length k) x) := Lib.hid (by rw [HSN.out, HIN.out]; rfl)
          obtain ⟨x0, x1⟩ := hxi (by simpa using hb1) (of_decide_eq_true hb2)
          have z0 : decide (x.index < 0) = false := decide_eq_false (by omega)
          have z1 : decide ((L.length : Int) ≤ x.index) = false := decide_eq_false (by omega)
          have z2 : decide (x.index ≥ (L.length : Int)) = false := decide_eq_false (by omega)
          have HBD := Lib.hid hS
          clear hS HSN HIN HB HG hb1 hb2
          have p2 := HBD.out.cell P2.out
          go_upto_region 20 with fail
          obtain ⟨u, hu⟩ : ∃ u, (cellsK HH f.num T L.length k)[x.index.toNat]? = some u := ⟨_, List.getElem?_eq_getElem (by rw [cellsK_len]; omega)⟩
          have HU : Hid ((intCells (cellsK HH f.num T L.length k))[x.index.toNat]? = some (.int .i64 u)) := Lib.hid (by unfold intCells; simp [hu])
          clear hu p2
          refine wp_region_held_drew (S := fun W => Bel w4 W) (by kernel_rfl) (HBD.out.dr) (fun hS => ?_)
          have HGE := Lib.hid (HGW.out.keep ((Bel.rfl_ WD).dr))
          generalize WD.drew = WE at *
          refine rt_take (i := 0) (some 118) (.slice (some ⟨G, 0, none⟩) L.length L.length) rfl rfl (by kernel_rfl) (by kernel_rfl) (by kernel_rfl) (fun _ _ _ h => h) (by kernel_rfl) hS (fun W _ => by kernel_rfl) ?_
          refine rt_take (i := 1) (some 119) (.slice (some ⟨bh, oh, none⟩) HH.length ch) rfl rfl (by kernel_rfl) (by kernel_rfl) (by kernel_rfl) (fun _ _ _ h => h) (by kernel_rfl) hS (fun W _ => by kernel_rfl) ?_
          refine rt_take (i := 2) (some 120) (.int .i64 k) rfl rfl (by kernel_rfl) (by kernel_rfl) (by kernel_rfl) (fun _ _ _ h => h) (by kernel_rfl) hS (fun W _ => by kernel_rfl) ?_
          refine rt_take (i := 3) (some 121) (.pointer (some ⟨bh, oh + k * 4, none⟩)) rfl rfl (by kernel_rfl) (by kernel_rfl) (by kernel_rfl) (fun _ _ _ h => h) (by kernel_rfl) hS (fun W _ => by go_simp) ?_
          refine rt_take (i := 4) (some 122) (.pointer (some ⟨bh, oh + k * 4 + 2, none⟩)) rfl rfl (by kernel_rfl) (by kernel_rfl) (by kernel_rfl) (fun _ _ _ h => h) (by kernel_rfl) hS (fun W _ => by kernel_rfl) ?_
          refine rt_take (i := 5) (some 123) (.int .i64 x.index) rfl rfl (by kernel_rfl) (by kernel_rfl) (by kernel_rfl) (fun _ _ _ h => h) (by kernel_rfl) hS (fun W hb => rl_int rfl (by kernel_rfl) (hb.cell P2.out)) ?_
          refine rt_take (i := 6) (some 124) (.slice (some ⟨bh, oh, none⟩) HH.length ch) rfl rfl (by kernel_rfl) (by kernel_rfl) (by kernel_rfl) (fun _ _ _ h => h) (by kernel_rfl) hS (fun W _ => by kernel_rfl) ?_
          refine rt_take (i := 7) (some 125) (.int .i64 k) rfl rfl (by kernel_rfl) (by kernel_rfl) (by kernel_rfl) (fun _ _ _ h => h) (by kernel_rfl) hS (fun W _ => by kernel_rfl) ?_
          refine rt_take (i := 8) (some 126) (.pointer (some ⟨bh, oh + k * 4, none⟩)) rfl rfl (by kernel_rfl) (by kernel_rfl) (by kernel_rfl) (fun _ _ _ h => h) (by kernel_rfl) hS (fun W _ => by go_simp) ?_
          refine rt_take (i := 9) (some 127) (.pointer (some ⟨bh, oh + k * 4 + 3, none⟩)) rfl rfl (by kernel_rfl) (by kernel_rfl) (by kernel_rfl) (fun _ _ _ h => h) (by kernel_rfl) hS (fun W _ => by kernel_rfl) ?_
          refine rt_take (i := 10) (some 128) (.int .i64 x.value) rfl rfl (by kernel_rfl) (by kernel_rfl) (by kernel_rfl) (fun _ _ _ h => h) (by kernel_rfl) hS (fun W hb => rl_int rfl (by kernel_rfl) (hb.cell P3.out)) ?_
          refine rt_take (i := 11) (some 129) (.pointer (some ⟨G, x.index.toNat, none⟩)) rfl rfl (by kernel_rfl) (by kernel_rfl) (by kernel_rfl) (fun _ _ _ h => h) (by kernel_rfl) hS (fun W _ => by go_simp) ?_
          refine st_one (i := 12) (by kernel_rfl) ?_
          refine st_sto (i := 12) none rfl rfl (by kernel_rfl) (WE.setCell ⟨G, x.index.toNat, none⟩ (.int .i64 x.value)) (rs_int2 rfl (by kernel_rfl) (by kernel_rfl) (HGE.out.cell (v := .int .i64 u) HU.out) (HGE.out.frozen _)) (hS.setCell (p := ⟨G, x.index.toNat, none⟩) HGL.out _) ?_
          refine wpAnyH_done (by kernel_rfl) ?_ _
          try simp only [Act.put, List.setIfInBounds_toArray, List.set_cons_zero, List.set_cons_succ]
          have HBF : Hid (Bel w4 (WE.setCell ⟨G, x.index.toNat, none⟩ (.int .i64 x.value))) := Lib.hid (hS.setCell (p := ⟨G, x.index.toNat, none⟩) HGL.out _)
          have HGF : Hid (Blk (WE.setCell ⟨G, x.index.toNat, none⟩ (.int .i64 x.value)) G INT (intCells (cellsK HH f.num T L.length (k + 1)))) := Lib.hid (by
            have h1 := HGE.out.set_ x.index.toNat (.int .i64 x.value)
            rw [HN.out]
            have h2 : (intCells (cellsK HH f.num T L.length k)).setIfInBounds x.index.toNat (.int .i64 x.value) = intCells (putH (cellsK HH f.num T L.length k) x) := by
              unfold intCells putH
              simp [List.map_set]
            rwa [h2] at h1)
          generalize World.setCell _ ⟨G, x.index.toNat, none⟩ _ = WF at *
          clear hS HN HU HGE HGW HBD
          go_wp2
          go_roundw
          case rel => exact ⟨k + 1, by go_num, by omega, HBF, HGF⟩
          case measure => simp [intOf]; omega
end Go.Proofs.Ytgkpplbomciehaa
