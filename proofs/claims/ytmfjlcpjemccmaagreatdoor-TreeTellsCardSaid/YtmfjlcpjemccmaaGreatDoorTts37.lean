/- Are two lists of commands the same, by the document: walked. Each lemma states its own conditions. -/
import Derived.Test.YtmfjlcpjemccmaaGreatDoorTts17
import Derived.Test.YtmfjlcpjemccmaaGreatDoorTts36
import Derived.Test.YtmfjlcpjemccmaaGreatDoorTts35
import Derived.Deep.DeepCutAuto
namespace Go.Proofs.YtmfjlcpjemccmaaGreatDoor
open Go.RowKit
set_option maxRecDepth 20000 in
set_option maxHeartbeats 8000000 in
theorem sameCs_step (f : Bool) (xs ys : List TC) (va vb : Value) (w : World) (ha : Sl tcR w va xs) (hb : Sl tcR w vb ys)
  (IH : ∀ x ∈ xs, (∀ (l : List TC) (va vb : Value) (W : World), Sl tcR W va x.thn → Sl tcR W vb l → Calls Tryz.prog 48 #[va, vb, .bool f] W fun r w' => r = .returned (.bool (sameCs f x.thn l)) ∧ Bel W w') ∧
   (∀ (l : List TC) (va vb : Value) (W : World), Sl tcR W va x.els → Sl tcR W vb l → Calls Tryz.prog 48 #[va, vb, .bool f] W fun r w' => r = .returned (.bool (sameCs f x.els l)) ∧ Bel W w')) :
  Calls Tryz.prog 48 #[va, vb, .bool f] w fun r w' => r = .returned (.bool (sameCs f xs ys)) ∧ Bel w w' := by
 have HSA := Hi_ ha
 have HSB := Hi_ hb
 obtain ⟨A, c, rfl, hc, hm, -⟩ := ha
 obtain ⟨B, d, rfl, hd, hm2, -⟩ := hb
 have HI := Hi_ IH
 have hl1 : xs.length ≤ 9223372036854775807 := by have := hm.1; simp only [maxLen] at this; omega
 have hl2 : ys.length ≤ 9223372036854775807 := by have := hm2.1; simp only [maxLen] at this; omega
 clear IH hm hm2 hc hd
 by_cases hlen : xs.length = ys.length
 rotate_left
 ·have HT := Hi_ (sameCs_len (f := f) hlen)
  have d0 : ((xs.length : Int) != ys.length) = true := by simp; omega
  clear hlen
  go_enter Tryz.func48, Tryz.ntmps48
  go_wp2
  go_ret
  exact ⟨by rw [HT.out]; rfl, Bel.rfl_ w⟩
 ·have d0 : ((xs.length : Int) != ys.length) = false := by simp; omega
  have HT : Hid (sameCs f (xs.drop 0) (ys.drop 0) = sameCs f xs ys) := Hi_ rfl
  have HRF := Hi_ (Bel.rfl_ w)
  have HLE := Hi_ hlen
  generalize sameCs f xs ys = T at *
  clear hlen
  go_enter Tryz.func48, Tryz.ntmps48
  go_wp2
  go_loopw [7] (fun t wr => ∃ j : Nat, j ≤ xs.length ∧ t = .int .i64 j ∧ Hid (sameCs f (xs.drop j) (ys.drop j) = T) ∧ Hid (Bel w wr)) (fun t _ => xs.length - (intOf t).toNat)
  case atStart => exact ⟨0, by omega, rfl, HT, HRF⟩
  case round =>
   obtain ⟨j, hj, rfl, HS, HB⟩ := hrel
   obtain ⟨WO, hWO⟩ : ∃ W, W = wr := ⟨_, rfl⟩
   subst hWO
   clear HT HRF
   by_cases hlt : j < xs.length
   ·have hdd : decide ((j : Int) < xs.length) = true := decide_eq_true (by omega)
    have hlt2 : j < ys.length := by have := HLE.out; omega
    obtain ⟨x, hx⟩ : ∃ x, xs[j]? = some x := ⟨_, List.getElem?_eq_getElem hlt⟩
    obtain ⟨y, hy⟩ : ∃ y, ys[j]? = some y := ⟨_, List.getElem?_eq_getElem hlt2⟩
    obtain ⟨b, o, cs, rfl, hcs, hca⟩ := tcAt (HSA.out.keep HB.out) hx
    obtain ⟨b', o', cs', rfl, hcs', hca'⟩ := tcAt (HSB.out.keep HB.out) hy
    have HIX := Hi_ (HI.out x (List.mem_of_getElem? hx))
    have HD : Hid ((x.same f y && sameCs f (xs.drop (j + 1)) (ys.drop (j + 1))) = T) := Hi_ (by rw [← sameCs_drop hx hy]; exact HS.out)
    have i0 : (0 : Int) ≤ j := by omega
    have i1 : (j : Int) < xs.length := by omega
    have i2 : (j : Int) < ys.length := by omega
    have HCS := Hi_ hcs
    have HCA := Hi_ hca
    have HCS' := Hi_ hcs'
    have HCA' := Hi_ hca'
    clear hcs hca hcs' hca' hx hy HI HS
    go_upto_region 6 with fail
    go_cut [8, 9] from 15 to 102 (fun p q wx => ∃ G1 G2 : Nat, p = .pointer (some ⟨G1, 0, none⟩) ∧ q = .pointer (some ⟨G2, 0, none⟩) ∧ Hid (Bel WO wx) ∧ Hid (Blk wx G1 53 cs.toArray) ∧ Hid (Blk wx G2 53 cs'.toArray))
    case first =>
     refine wp_region_held_drew (S := fun W => Bel WO W) (by kernel_rfl) ((Bel.rfl_ WO).dr) (fun hS => ?_)
     refine rt_t (i := 0) (some 21) (.slice (some ⟨b, o, none⟩) xs.length c) rfl hS (fun W _ => by kernel_rfl) ?_
     refine rt_t (i := 1) (some 22) (.int .i64 j) rfl hS (fun W _ => by kernel_rfl) ?_
     refine rt_t (i := 2) (some 23) (.pointer (some ⟨b, o + j * 17, none⟩)) rfl hS (fun W _ => by go_simp) ?_
     refine rt_t (i := 3) (some 24) (.agg cs.toArray) rfl hS (fun W hb => run_loadRow 53 (.tmp 23) rfl elTC b (o + j * 17) (by kernel_rfl) cs (HCA.out.keep hb) (tcR.len HCS.out) (by kernel_rfl)) ?_
     refine rt_t (i := 4) (some 25) (.slice (some ⟨b', o', none⟩) ys.length d) rfl hS (fun W _ => by kernel_rfl) ?_
     refine rt_t (i := 5) (some 26) (.int .i64 j) rfl hS (fun W _ => by kernel_rfl) ?_
     refine rt_t (i := 6) (some 27) (.pointer (some ⟨b', o' + j * 17, none⟩)) rfl hS (fun W _ => by go_simp) ?_
     refine rt_t (i := 7) (some 28) (.agg cs'.toArray) rfl hS (fun W hb => run_loadRow 53 (.tmp 27) rfl elTC b' (o' + j * 17) (by kernel_rfl) cs' (HCA'.out.keep hb) (tcR.len HCS'.out) (by kernel_rfl)) ?_
     refine st_two (i := 8) (j := 9) (by kernel_rfl) ?_ ?_
     ·refine st_alloc (some 8) rfl rfl 53 rfl rfl elTC ?_
      intro z hz
      replace hS := hS.al (.cells z 53)
      refine ⟨hS, ?_⟩
      have bx := Blk.new WO.drew 53 z
      refine st_one (i := 9) (by kernel_rfl) ?_
      refine st_alloc (some 9) rfl rfl 53 rfl rfl elTC ?_
      intro y' hy'
      replace hS := hS.al (.cells y' 53)
      refine ⟨hS, ?_⟩
      have by_ := Blk.new (WO.drew.alloc (.cells z 53)) 53 y'
      replace bx := bx.keep ((Bel.rfl_ _).al (.cells y' 53))
      have hne : WO.drew.heap.size ≠ (WO.drew.alloc (.cells z 53)).heap.size := by simp
      refine st_one (i := 10) (by kernel_rfl) ?_
      replace hS := hS.row (G := WO.drew.heap.size) (by simp) cs.toArray
      refine st_store none rfl rfl 53 (.tmp 8) (.tmp 24) rfl rfl elTC WO.drew.heap.size cs (by kernel_rfl) (by kernel_rfl) bx hz (tcR.len HCS.out) (tcR_one HCS.out) hS ?_
      replace bx := bx.row_same cs.toArray
      replace by_ := by_.row_other hne.symm cs.toArray
      refine st_one (i := 11) (by kernel_rfl) ?_
      replace hS := hS.row (G := (WO.drew.alloc (.cells z 53)).heap.size) (by simp) cs'.toArray
      refine st_store none rfl rfl 53 (.tmp 9) (.tmp 28) rfl rfl elTC (WO.drew.alloc (.cells z 53)).heap.size cs' (by kernel_rfl) (by kernel_rfl) by_ hy' (tcR.len HCS'.out) (tcR_one HCS'.out) hS ?_
      replace by_ := by_.row_same cs'.toArray
      replace bx := bx.row_other hne cs'.toArray
      refine wpAnyH_done (by kernel_rfl) ?_ _
      try simp only [Act.put, lA, lB, lC]
      try go_wp2
      go_meet
      exact ⟨WO.drew.heap.size, (WO.drew.alloc (.cells z 53)).heap.size, rfl, rfl, Hi_ hS, Hi_ bx, Hi_ by_⟩
     ·refine st_alloc (some 9) rfl rfl 53 rfl rfl elTC ?_
      intro y' hy'
      replace hS := hS.al (.cells y' 53)
      refine ⟨hS, ?_⟩
      have by_ := Blk.new WO.drew 53 y'
      refine st_one (i := 8) (by kernel_rfl) ?_
      refine st_alloc (some 8) rfl rfl 53 rfl rfl elTC ?_
      intro z hz
      replace hS := hS.al (.cells z 53)
      refine ⟨hS, ?_⟩
      have bx := Blk.new (WO.drew.alloc (.cells y' 53)) 53 z
      replace by_ := by_.keep ((Bel.rfl_ _).al (.cells z 53))
      have hne : WO.drew.heap.size ≠ (WO.drew.alloc (.cells y' 53)).heap.size := by simp
      refine st_one (i := 10) (by kernel_rfl) ?_
      replace hS := hS.row (G := (WO.drew.alloc (.cells y' 53)).heap.size) (by simp) cs.toArray
      refine st_store none rfl rfl 53 (.tmp 8) (.tmp 24) rfl rfl elTC (WO.drew.alloc (.cells y' 53)).heap.size cs (by kernel_rfl) (by kernel_rfl) bx hz (tcR.len HCS.out) (tcR_one HCS.out) hS ?_
      replace bx := bx.row_same cs.toArray
      replace by_ := by_.row_other hne cs.toArray
      refine st_one (i := 11) (by kernel_rfl) ?_
      replace hS := hS.row (G := WO.drew.heap.size) (by simp) cs'.toArray
      refine st_store none rfl rfl 53 (.tmp 9) (.tmp 28) rfl rfl elTC WO.drew.heap.size cs' (by kernel_rfl) (by kernel_rfl) by_ hy' (tcR.len HCS'.out) (tcR_one HCS'.out) hS ?_
      replace by_ := by_.row_same cs'.toArray
      replace bx := bx.row_other hne.symm cs'.toArray
      refine wpAnyH_done (by kernel_rfl) ?_ _
      try simp only [Act.put, lA, lB, lC]
      try go_wp2
      go_meet
      exact ⟨(WO.drew.alloc (.cells y' 53)).heap.size, WO.drew.heap.size, rfl, rfl, Hi_ hS, Hi_ bx, Hi_ by_⟩
    case rest =>
     obtain ⟨G1, G2, rfl, rfl, HX, HK1, HK2⟩ := hcut
     obtain ⟨WB, hWB⟩ : ∃ W, W = wc := ⟨_, rfl⟩
     subst hWB
     obtain ⟨vi, ve, va, vt, vs, rfl, -, -, hin, hen, hsi, hse, hsa, hst, hsl⟩ := tcCells HCS.out
     obtain ⟨vi', ve', va', vt', vs', rfl, -, -, hin', hen', hsi', hse', hsa', hst', hsl'⟩ := tcCells HCS'.out
     clear HCS HCA HCS' HCA'
     have HFI : Hid (∀ W, Bel WO W → Calls Tryz.prog 49 #[.agg #[.int .i64 x.index.kind, .int .i64 x.index.at_, .int .i64 x.index.n, .string x.index.name, vi], .agg #[.int .i64 y.index.kind, .int .i64 y.index.at_, .int .i64 y.index.n, .string y.index.name, vi'], .bool f] W fun r w' => r = .returned (.bool (x.index.same f y.index)) ∧ Bel W w') := Hi_ fun W hb => sameE_any f x.index y.index _ _ W ⟨_, rfl, hin, hsi.keep hb⟩ ⟨_, rfl, hin', hsi'.keep hb⟩
     have HFE : Hid (∀ W, Bel WO W → Calls Tryz.prog 49 #[.agg #[.int .i64 x.expr.kind, .int .i64 x.expr.at_, .int .i64 x.expr.n, .string x.expr.name, ve], .agg #[.int .i64 y.expr.kind, .int .i64 y.expr.at_, .int .i64 y.expr.n, .string y.expr.name, ve'], .bool f] W fun r w' => r = .returned (.bool (x.expr.same f y.expr)) ∧ Bel W w') := Hi_ fun W hb => sameE_any f x.expr y.expr _ _ W ⟨_, rfl, hen, hse.keep hb⟩ ⟨_, rfl, hen', hse'.keep hb⟩
     have HFA := Hi_ (fun W (hb : Bel WO W) => sameEs_any f x.args y.args va va' W (hsa.keep hb) (hsa'.keep hb))
     have HFT := Hi_ (fun W (hb : Bel WO W) => HIX.out.1 y.thn vt vt' W (hst.keep hb) (hst'.keep hb))
     have HFL := Hi_ (fun W (hb : Bel WO W) => HIX.out.2 y.els vs vs' W (hsl.keep hb) (hsl'.keep hb))
     obtain ⟨Ai, aci, rfl, -⟩ := hsi
     obtain ⟨Ae, ace, rfl, -⟩ := hse
     obtain ⟨Aa, aca, rfl, -⟩ := hsa
     obtain ⟨At, act, rfl, -⟩ := hst
     obtain ⟨Al, acl, rfl, -⟩ := hsl
     obtain ⟨Bi, bci, rfl, -⟩ := hsi'
     obtain ⟨Be, bce, rfl, -⟩ := hse'
     obtain ⟨Ba, bca, rfl, -⟩ := hsa'
     obtain ⟨Bt, bct, rfl, -⟩ := hst'
     obtain ⟨Bl, bcl, rfl, -⟩ := hsl'
     clear hin hen hin' hen' HIX
     have HE : Hid (_ = x.same f y) := Hi_ (TC.same_eq f x y).symm
     generalize x.same f y = SM at *
     generalize x.index.kind = xik at *
     generalize x.index.at_ = xia at *
     generalize x.index.n = xin at *
     generalize x.index.name = xis at *
     generalize x.expr.kind = xek at *
     generalize x.expr.at_ = xea at *
     generalize x.expr.n = xen at *
     generalize x.expr.name = xes at *
     generalize y.index.kind = yik at *
     generalize y.index.at_ = yia at *
     generalize y.index.n = yin at *
     generalize y.index.name = yis at *
     generalize y.expr.kind = yek at *
     generalize y.expr.at_ = yea at *
     generalize y.expr.n = yen at *
     generalize y.expr.name = yes at *
     generalize x.kind = xk at *
     generalize x.at_ = xa at *
     generalize x.name = xn at *
     generalize x.other = xo at *
     generalize y.kind = yk at *
     generalize y.at_ = ya at *
     generalize y.name = yn at *
     generalize y.other = yo at *
     generalize x.index.same f y.index = bI at *
     generalize x.expr.same f y.expr = bE at *
     generalize sameEs f x.args y.args = bA at *
     generalize sameCs f x.thn y.thn = bT at *
     generalize sameCs f x.els y.els = bL at *
     go_upto_region 7 with fail
     go_cut [102] from 29 to 101 (fun s wx => s = .bool (!SM) ∧ Hid (Bel WO wx))
     case first =>
      refine wl_region ?_
      dsimp only [List.append]
      cases f with
      | false =>
       refine wl_k (some 29) (.pointer (some ⟨G1, 0, none⟩)) ?_
       refine wl_e (some 30) (.int .i64 xk) (rl_int_ (HK1.out.cell (i := 0) (v := .int .i64 xk) rfl)) ?_
       refine wl_k (some 31) (.pointer (some ⟨G2, 0, none⟩)) ?_
       refine wl_e (some 32) (.int .i64 yk) (rl_int_ (HK2.out.cell (i := 0) (v := .int .i64 yk) rfl)) ?_
       by_cases h_k : xk = yk
       rotate_left
       ·have d_k : (xk != yk) = true := by simpa using h_k
        rw [decide_eq_false h_k, Bool.false_and] at HE
        refine wl_e (some 33) (.bool true) (rb_neqI rfl (by kernel_rfl) (by kernel_rfl) d_k) ?_
        refine wl_c 69 34 [.bool true, uD, uD, uD, uD, uD, uD, uD, uD, .bool true, .bool true, uD, uD, uD, uD, uD, .bool true, .bool true, uD, uD, uD, uD, uD, .bool true, .bool true, uD, uD, uD, uD, uD, uD, uD, .bool true, .bool true, uD, uD, uD, uD, uD, uD, uD, .bool true, .bool true, uD, uD, uD, uD, uD, uD, uD, .bool true, .bool true, uD, uD, uD, uD, uD, uD, uD, .bool true, .bool true, uD, uD, uD, uD, uD, uD, uD, .bool true] ?_
        refine wl_nil ?_
        try simp only [sP, Act.put, lA, lB, lC]
        try go_wp2
        go_meet
        exact ⟨by rw [← HE.out]; rfl, HX⟩
       have d_k : (xk != yk) = false := by simpa using h_k
       rw [decide_eq_true h_k, Bool.true_and] at HE
       rw [show (!false || decide (xa = ya)) = true from rfl, Bool.true_and] at HE
       refine wl_e (some 33) (.bool false) (rb_neqI rfl (by kernel_rfl) (by kernel_rfl) d_k) ?_
       refine wl_c 12 34 [.bool false, .bool false, .bool false, uD, uD, uD, uD, uD, .bool false, .bool false, .bool false, .pointer (some ⟨G1, 2, none⟩)] ?_
       refine wl_e (some 46) (.string xn) (rl_str_ (HK1.out.cell (i := 2) (v := .string xn) rfl)) ?_
       refine wl_k (some 47) (.pointer (some ⟨G2, 2, none⟩)) ?_
       refine wl_e (some 48) (.string yn) (rl_str_ (HK2.out.cell (i := 2) (v := .string yn) rfl)) ?_
       by_cases h_n : xn = yn
       rotate_left
       ·have d_n : (xn.toList == yn.toList) = false := str_false h_n
        rw [decide_eq_false h_n, Bool.false_and] at HE
        refine wl_e (some 49) (.bool true) (rb_neqS rfl (by kernel_rfl) (by kernel_rfl) d_n) ?_
        refine wl_c 53 50 [.bool true, .bool true, uD, uD, uD, uD, uD, .bool true, .bool true, uD, uD, uD, uD, uD, uD, uD, .bool true, .bool true, uD, uD, uD, uD, uD, uD, uD, .bool true, .bool true, uD, uD, uD, uD, uD, uD, uD, .bool true, .bool true, uD, uD, uD, uD, uD, uD, uD, .bool true, .bool true, uD, uD, uD, uD, uD, uD, uD, .bool true] ?_
        refine wl_nil ?_
        try simp only [sP, Act.put, lA, lB, lC]
        try go_wp2
        go_meet
        exact ⟨by rw [← HE.out]; rfl, HX⟩
       have d_n : (xn.toList == yn.toList) = true := str_true h_n
       rw [decide_eq_true h_n, Bool.true_and] at HE
       refine wl_e (some 49) (.bool false) (rb_neqS rfl (by kernel_rfl) (by kernel_rfl) d_n) ?_
       refine wl_c 3 50 [.bool false, .bool false, .pointer (some ⟨G1, 3, none⟩)] ?_
       refine wl_e (some 53) (.string xo) (rl_str_ (HK1.out.cell (i := 3) (v := .string xo) rfl)) ?_
       refine wl_k (some 54) (.pointer (some ⟨G2, 3, none⟩)) ?_
       refine wl_e (some 55) (.string yo) (rl_str_ (HK2.out.cell (i := 3) (v := .string yo) rfl)) ?_
       by_cases h_o : xo = yo
       rotate_left
       ·have d_o : (xo.toList == yo.toList) = false := str_false h_o
        rw [decide_eq_false h_o, Bool.false_and] at HE
        refine wl_e (some 56) (.bool true) (rb_neqS rfl (by kernel_rfl) (by kernel_rfl) d_o) ?_
        refine wl_c 46 57 [.bool true, .bool true, uD, uD, uD, uD, uD, uD, uD, .bool true, .bool true, uD, uD, uD, uD, uD, uD, uD, .bool true, .bool true, uD, uD, uD, uD, uD, uD, uD, .bool true, .bool true, uD, uD, uD, uD, uD, uD, uD, .bool true, .bool true, uD, uD, uD, uD, uD, uD, uD, .bool true] ?_
        refine wl_nil ?_
        try simp only [sP, Act.put, lA, lB, lC]
        try go_wp2
        go_meet
        exact ⟨by rw [← HE.out]; rfl, HX⟩
       have d_o : (xo.toList == yo.toList) = true := str_true h_o
       rw [decide_eq_true h_o, Bool.true_and] at HE
       refine wl_e (some 56) (.bool false) (rb_neqS rfl (by kernel_rfl) (by kernel_rfl) d_o) ?_
       refine wl_c 3 57 [.bool false, .bool false, .pointer (some ⟨G1, 4, none⟩)] ?_
       refine wl_e (some 60) (.agg #[.int .i64 xik, .int .i64 xia, .int .i64 xin, .string xis, .slice Ai x.index.args.length aci]) (run_loadRow 49 (.tmp 59) rfl elTE G1 4 (by kernel_rfl) [.int .i64 xik, .int .i64 xia, .int .i64 xin, .string xis, .slice Ai x.index.args.length aci] (blkRange HK1.out 4 rfl) rfl (by kernel_rfl)) ?_
       refine wl_k (some 61) (.pointer (some ⟨G2, 4, none⟩)) ?_
       refine wl_e (some 62) (.agg #[.int .i64 yik, .int .i64 yia, .int .i64 yin, .string yis, .slice Bi y.index.args.length bci]) (run_loadRow 49 (.tmp 61) rfl elTE G2 4 (by kernel_rfl) [.int .i64 yik, .int .i64 yia, .int .i64 yin, .string yis, .slice Bi y.index.args.length bci] (blkRange HK2.out 4 rfl) rfl (by kernel_rfl)) ?_
       refine wl_k (some 63) (.bool false) ?_
       refine wl_cl (some 64) 49 #[.agg #[.int .i64 xik, .int .i64 xia, .int .i64 xin, .string xis, .slice Ai x.index.args.length aci], .agg #[.int .i64 yik, .int .i64 yia, .int .i64 yin, .string yis, .slice Bi y.index.args.length bci], .bool false] (HFI.out _ HX.out) ?_
       rintro r W3 ⟨rfl, hb⟩
       replace HX := Hi_ (HX.out.tr hb)
       replace HK1 := Hi_ (HK1.out.keep hb)
       replace HK2 := Hi_ (HK2.out.keep hb)
       clear hb
       refine ⟨_, rfl, ?_⟩
       cases bI with
       | false =>
        rw [Bool.false_and] at HE
        refine wl_c 38 65 [.bool true, .bool true, .bool true, uD, uD, uD, uD, uD, uD, uD, .bool true, .bool true, uD, uD, uD, uD, uD, uD, uD, .bool true, .bool true, uD, uD, uD, uD, uD, uD, uD, .bool true, .bool true, uD, uD, uD, uD, uD, uD, uD, .bool true] ?_
        refine wl_nil ?_
        try simp only [sP, Act.put, lA, lB, lC]
        try go_wp2
        go_meet
        exact ⟨by rw [← HE.out]; rfl, HX⟩
       | true =>
        rw [Bool.true_and] at HE
        refine wl_c 4 65 [.bool false, .bool false, .bool false, .pointer (some ⟨G1, 9, none⟩)] ?_
        refine wl_e (some 69) (.agg #[.int .i64 xek, .int .i64 xea, .int .i64 xen, .string xes, .slice Ae x.expr.args.length ace]) (run_loadRow 49 (.tmp 68) rfl elTE G1 9 (by kernel_rfl) [.int .i64 xek, .int .i64 xea, .int .i64 xen, .string xes, .slice Ae x.expr.args.length ace] (blkRange HK1.out 9 rfl) rfl (by kernel_rfl)) ?_
        refine wl_k (some 70) (.pointer (some ⟨G2, 9, none⟩)) ?_
        refine wl_e (some 71) (.agg #[.int .i64 yek, .int .i64 yea, .int .i64 yen, .string yes, .slice Be y.expr.args.length bce]) (run_loadRow 49 (.tmp 70) rfl elTE G2 9 (by kernel_rfl) [.int .i64 yek, .int .i64 yea, .int .i64 yen, .string yes, .slice Be y.expr.args.length bce] (blkRange HK2.out 9 rfl) rfl (by kernel_rfl)) ?_
        refine wl_k (some 72) (.bool false) ?_
        refine wl_cl (some 73) 49 #[.agg #[.int .i64 xek, .int .i64 xea, .int .i64 xen, .string xes, .slice Ae x.expr.args.length ace], .agg #[.int .i64 yek, .int .i64 yea, .int .i64 yen, .string yes, .slice Be y.expr.args.length bce], .bool false] (HFE.out _ HX.out) ?_
        rintro r W3 ⟨rfl, hb⟩
        replace HX := Hi_ (HX.out.tr hb)
        replace HK1 := Hi_ (HK1.out.keep hb)
        replace HK2 := Hi_ (HK2.out.keep hb)
        clear hb
        refine ⟨_, rfl, ?_⟩
        cases bE with
        | false =>
         rw [Bool.false_and] at HE
         refine wl_c 29 74 [.bool true, .bool true, .bool true, uD, uD, uD, uD, uD, uD, uD, .bool true, .bool true, uD, uD, uD, uD, uD, uD, uD, .bool true, .bool true, uD, uD, uD, uD, uD, uD, uD, .bool true] ?_
         refine wl_nil ?_
         try simp only [sP, Act.put, lA, lB, lC]
         try go_wp2
         go_meet
         exact ⟨by rw [← HE.out]; rfl, HX⟩
        | true =>
         rw [Bool.true_and] at HE
         refine wl_c 4 74 [.bool false, .bool false, .bool false, .pointer (some ⟨G1, 14, none⟩)] ?_
         refine wl_e (some 78) (.slice Aa x.args.length aca) (rl_es_ (HK1.out.cell (i := 14) (v := .slice Aa x.args.length aca) rfl)) ?_
         refine wl_k (some 79) (.pointer (some ⟨G2, 14, none⟩)) ?_
         refine wl_e (some 80) (.slice Ba y.args.length bca) (rl_es_ (HK2.out.cell (i := 14) (v := .slice Ba y.args.length bca) rfl)) ?_
         refine wl_k (some 81) (.bool false) ?_
         refine wl_cl (some 82) 89 #[.slice Aa x.args.length aca, .slice Ba y.args.length bca, .bool false] (HFA.out _ HX.out) ?_
         rintro r W3 ⟨rfl, hb⟩
         replace HX := Hi_ (HX.out.tr hb)
         replace HK1 := Hi_ (HK1.out.keep hb)
         replace HK2 := Hi_ (HK2.out.keep hb)
         clear hb
         refine ⟨_, rfl, ?_⟩
         cases bA with
         | false =>
          rw [Bool.false_and] at HE
          refine wl_c 20 83 [.bool true, .bool true, .bool true, uD, uD, uD, uD, uD, uD, uD, .bool true, .bool true, uD, uD, uD, uD, uD, uD, uD, .bool true] ?_
          refine wl_nil ?_
          try simp only [sP, Act.put, lA, lB, lC]
          try go_wp2
          go_meet
          exact ⟨by rw [← HE.out]; rfl, HX⟩
         | true =>
          rw [Bool.true_and] at HE
          refine wl_c 4 83 [.bool false, .bool false, .bool false, .pointer (some ⟨G1, 15, none⟩)] ?_
          refine wl_e (some 87) (.slice At x.thn.length act) (rl_cs_ (HK1.out.cell (i := 15) (v := .slice At x.thn.length act) rfl)) ?_
          refine wl_k (some 88) (.pointer (some ⟨G2, 15, none⟩)) ?_
          refine wl_e (some 89) (.slice Bt y.thn.length bct) (rl_cs_ (HK2.out.cell (i := 15) (v := .slice Bt y.thn.length bct) rfl)) ?_
          refine wl_k (some 90) (.bool false) ?_
          refine wl_cl (some 91) 48 #[.slice At x.thn.length act, .slice Bt y.thn.length bct, .bool false] (HFT.out _ HX.out) ?_
          rintro r W3 ⟨rfl, hb⟩
          replace HX := Hi_ (HX.out.tr hb)
          replace HK1 := Hi_ (HK1.out.keep hb)
          replace HK2 := Hi_ (HK2.out.keep hb)
          clear hb
          refine ⟨_, rfl, ?_⟩
          cases bT with
          | false =>
           rw [Bool.false_and] at HE
           refine wl_c 11 92 [.bool true, .bool true, .bool true, uD, uD, uD, uD, uD, uD, uD, .bool true] ?_
           refine wl_nil ?_
           try simp only [sP, Act.put, lA, lB, lC]
           try go_wp2
           go_meet
           exact ⟨by rw [← HE.out]; rfl, HX⟩
          | true =>
           rw [Bool.true_and] at HE
           refine wl_c 4 92 [.bool false, .bool false, .bool false, .pointer (some ⟨G1, 16, none⟩)] ?_
           refine wl_e (some 96) (.slice Al x.els.length acl) (rl_cs_ (HK1.out.cell (i := 16) (v := .slice Al x.els.length acl) rfl)) ?_
           refine wl_k (some 97) (.pointer (some ⟨G2, 16, none⟩)) ?_
           refine wl_e (some 98) (.slice Bl y.els.length bcl) (rl_cs_ (HK2.out.cell (i := 16) (v := .slice Bl y.els.length bcl) rfl)) ?_
           refine wl_k (some 99) (.bool false) ?_
           refine wl_cl (some 100) 48 #[.slice Al x.els.length acl, .slice Bl y.els.length bcl, .bool false] (HFL.out _ HX.out) ?_
           rintro r W3 ⟨rfl, hb⟩
           replace HX := Hi_ (HX.out.tr hb)
           replace HK1 := Hi_ (HK1.out.keep hb)
           replace HK2 := Hi_ (HK2.out.keep hb)
           clear hb
           refine ⟨_, rfl, ?_⟩
           cases bL with
           | false =>
            refine wl_c 2 101 [.bool true, .bool true] ?_
            refine wl_nil ?_
            try simp only [sP, Act.put, lA, lB, lC]
            try go_wp2
            go_meet
            exact ⟨by rw [← HE.out]; rfl, HX⟩
           | true =>
            refine wl_c 2 101 [.bool false, .bool false] ?_
            refine wl_nil ?_
            try simp only [sP, Act.put, lA, lB, lC]
            try go_wp2
            go_meet
            exact ⟨by rw [← HE.out]; rfl, HX⟩
      | true =>
       refine wl_k (some 29) (.pointer (some ⟨G1, 0, none⟩)) ?_
       refine wl_e (some 30) (.int .i64 xk) (rl_int_ (HK1.out.cell (i := 0) (v := .int .i64 xk) rfl)) ?_
       refine wl_k (some 31) (.pointer (some ⟨G2, 0, none⟩)) ?_
       refine wl_e (some 32) (.int .i64 yk) (rl_int_ (HK2.out.cell (i := 0) (v := .int .i64 yk) rfl)) ?_
       by_cases h_k : xk = yk
       rotate_left
       ·have d_k : (xk != yk) = true := by simpa using h_k
        rw [decide_eq_false h_k, Bool.false_and] at HE
        refine wl_e (some 33) (.bool true) (rb_neqI rfl (by kernel_rfl) (by kernel_rfl) d_k) ?_
        refine wl_c 69 34 [.bool true, uD, uD, uD, uD, uD, uD, uD, uD, .bool true, .bool true, uD, uD, uD, uD, uD, .bool true, .bool true, uD, uD, uD, uD, uD, .bool true, .bool true, uD, uD, uD, uD, uD, uD, uD, .bool true, .bool true, uD, uD, uD, uD, uD, uD, uD, .bool true, .bool true, uD, uD, uD, uD, uD, uD, uD, .bool true, .bool true, uD, uD, uD, uD, uD, uD, uD, .bool true, .bool true, uD, uD, uD, uD, uD, uD, uD, .bool true] ?_
        refine wl_nil ?_
        try simp only [sP, Act.put, lA, lB, lC]
        try go_wp2
        go_meet
        exact ⟨by rw [← HE.out]; rfl, HX⟩
       have d_k : (xk != yk) = false := by simpa using h_k
       rw [decide_eq_true h_k, Bool.true_and] at HE
       refine wl_e (some 33) (.bool false) (rb_neqI rfl (by kernel_rfl) (by kernel_rfl) d_k) ?_
       refine wl_c 4 34 [.bool false, .bool true, .bool true, .pointer (some ⟨G1, 1, none⟩)] ?_
       refine wl_e (some 38) (.int .i64 xa) (rl_int_ (HK1.out.cell (i := 1) (v := .int .i64 xa) rfl)) ?_
       refine wl_k (some 39) (.pointer (some ⟨G2, 1, none⟩)) ?_
       refine wl_e (some 40) (.int .i64 ya) (rl_int_ (HK2.out.cell (i := 1) (v := .int .i64 ya) rfl)) ?_
       by_cases h_a : xa = ya
       rotate_left
       ·have d_a : (xa != ya) = true := by simpa using h_a
        rw [show (!true || decide (xa = ya)) = decide (xa = ya) from rfl] at HE
        rw [decide_eq_false h_a, Bool.false_and] at HE
        refine wl_e (some 41) (.bool true) (rb_neqI rfl (by kernel_rfl) (by kernel_rfl) d_a) ?_
        refine wl_c 61 42 [.bool true, .bool true, .bool true, uD, uD, uD, uD, uD, .bool true, .bool true, uD, uD, uD, uD, uD, .bool true, .bool true, uD, uD, uD, uD, uD, uD, uD, .bool true, .bool true, uD, uD, uD, uD, uD, uD, uD, .bool true, .bool true, uD, uD, uD, uD, uD, uD, uD, .bool true, .bool true, uD, uD, uD, uD, uD, uD, uD, .bool true, .bool true, uD, uD, uD, uD, uD, uD, uD, .bool true] ?_
        refine wl_nil ?_
        try simp only [sP, Act.put, lA, lB, lC]
        try go_wp2
        go_meet
        exact ⟨by rw [← HE.out]; rfl, HX⟩
       have d_a : (xa != ya) = false := by simpa using h_a
       rw [show (!true || decide (xa = ya)) = decide (xa = ya) from rfl] at HE
       rw [decide_eq_true h_a, Bool.true_and] at HE
       refine wl_e (some 41) (.bool false) (rb_neqI rfl (by kernel_rfl) (by kernel_rfl) d_a) ?_
       refine wl_c 4 42 [.bool false, .bool false, .bool false, .pointer (some ⟨G1, 2, none⟩)] ?_
       refine wl_e (some 46) (.string xn) (rl_str_ (HK1.out.cell (i := 2) (v := .string xn) rfl)) ?_
       refine wl_k (some 47) (.pointer (some ⟨G2, 2, none⟩)) ?_
       refine wl_e (some 48) (.string yn) (rl_str_ (HK2.out.cell (i := 2) (v := .string yn) rfl)) ?_
       by_cases h_n : xn = yn
       rotate_left
       ·have d_n : (xn.toList == yn.toList) = false := str_false h_n
        rw [decide_eq_false h_n, Bool.false_and] at HE
        refine wl_e (some 49) (.bool true) (rb_neqS rfl (by kernel_rfl) (by kernel_rfl) d_n) ?_
        refine wl_c 53 50 [.bool true, .bool true, uD, uD, uD, uD, uD, .bool true, .bool true, uD, uD, uD, uD, uD, uD, uD, .bool true, .bool true, uD, uD, uD, uD, uD, uD, uD, .bool true, .bool true, uD, uD, uD, uD, uD, uD, uD, .bool true, .bool true, uD, uD, uD, uD, uD, uD, uD, .bool true, .bool true, uD, uD, uD, uD, uD, uD, uD, .bool true] ?_
        refine wl_nil ?_
        try simp only [sP, Act.put, lA, lB, lC]
        try go_wp2
        go_meet
        exact ⟨by rw [← HE.out]; rfl, HX⟩
       have d_n : (xn.toList == yn.toList) = true := str_true h_n
       rw [decide_eq_true h_n, Bool.true_and] at HE
       refine wl_e (some 49) (.bool false) (rb_neqS rfl (by kernel_rfl) (by kernel_rfl) d_n) ?_
       refine wl_c 3 50 [.bool false, .bool false, .pointer (some ⟨G1, 3, none⟩)] ?_
       refine wl_e (some 53) (.string xo) (rl_str_ (HK1.out.cell (i := 3) (v := .string xo) rfl)) ?_
       refine wl_k (some 54) (.pointer (some ⟨G2, 3, none⟩)) ?_
       refine wl_e (some 55) (.string yo) (rl_str_ (HK2.out.cell (i := 3) (v := .string yo) rfl)) ?_
       by_cases h_o : xo = yo
       rotate_left
       ·have d_o : (xo.toList == yo.toList) = false := str_false h_o
        rw [decide_eq_false h_o, Bool.false_and] at HE
        refine wl_e (some 56) (.bool true) (rb_neqS rfl (by kernel_rfl) (by kernel_rfl) d_o) ?_
        refine wl_c 46 57 [.bool true, .bool true, uD, uD, uD, uD, uD, uD, uD, .bool true, .bool true, uD, uD, uD, uD, uD, uD, uD, .bool true, .bool true, uD, uD, uD, uD, uD, uD, uD, .bool true, .bool true, uD, uD, uD, uD, uD, uD, uD, .bool true, .bool true, uD, uD, uD, uD, uD, uD, uD, .bool true] ?_
        refine wl_nil ?_
        try simp only [sP, Act.put, lA, lB, lC]
        try go_wp2
        go_meet
        exact ⟨by rw [← HE.out]; rfl, HX⟩
       have d_o : (xo.toList == yo.toList) = true := str_true h_o
       rw [decide_eq_true h_o, Bool.true_and] at HE
       refine wl_e (some 56) (.bool false) (rb_neqS rfl (by kernel_rfl) (by kernel_rfl) d_o) ?_
       refine wl_c 3 57 [.bool false, .bool false, .pointer (some ⟨G1, 4, none⟩)] ?_
       refine wl_e (some 60) (.agg #[.int .i64 xik, .int .i64 xia, .int .i64 xin, .string xis, .slice Ai x.index.args.length aci]) (run_loadRow 49 (.tmp 59) rfl elTE G1 4 (by kernel_rfl) [.int .i64 xik, .int .i64 xia, .int .i64 xin, .string xis, .slice Ai x.index.args.length aci] (blkRange HK1.out 4 rfl) rfl (by kernel_rfl)) ?_
       refine wl_k (some 61) (.pointer (some ⟨G2, 4, none⟩)) ?_
       refine wl_e (some 62) (.agg #[.int .i64 yik, .int .i64 yia, .int .i64 yin, .string yis, .slice Bi y.index.args.length bci]) (run_loadRow 49 (.tmp 61) rfl elTE G2 4 (by kernel_rfl) [.int .i64 yik, .int .i64 yia, .int .i64 yin, .string yis, .slice Bi y.index.args.length bci] (blkRange HK2.out 4 rfl) rfl (by kernel_rfl)) ?_
       refine wl_k (some 63) (.bool true) ?_
       refine wl_cl (some 64) 49 #[.agg #[.int .i64 xik, .int .i64 xia, .int .i64 xin, .string xis, .slice Ai x.index.args.length aci], .agg #[.int .i64 yik, .int .i64 yia, .int .i64 yin, .string yis, .slice Bi y.index.args.length bci], .bool true] (HFI.out _ HX.out) ?_
       rintro r W3 ⟨rfl, hb⟩
       replace HX := Hi_ (HX.out.tr hb)
       replace HK1 := Hi_ (HK1.out.keep hb)
       replace HK2 := Hi_ (HK2.out.keep hb)
       clear hb
       refine ⟨_, rfl, ?_⟩
       cases bI with
       | false =>
        rw [Bool.false_and] at HE
        refine wl_c 38 65 [.bool true, .bool true, .bool true, uD, uD, uD, uD, uD, uD, uD, .bool true, .bool true, uD, uD, uD, uD, uD, uD, uD, .bool true, .bool true, uD, uD, uD, uD, uD, uD, uD, .bool true, .bool true, uD, uD, uD, uD, uD, uD, uD, .bool true] ?_
        refine wl_nil ?_
        try simp only [sP, Act.put, lA, lB, lC]
        try go_wp2
        go_meet
        exact ⟨by rw [← HE.out]; rfl, HX⟩
       | true =>
        rw [Bool.true_and] at HE
        refine wl_c 4 65 [.bool false, .bool false, .bool false, .pointer (some ⟨G1, 9, none⟩)] ?_
        refine wl_e (some 69) (.agg #[.int .i64 xek, .int .i64 xea, .int .i64 xen, .string xes, .slice Ae x.expr.args.length ace]) (run_loadRow 49 (.tmp 68) rfl elTE G1 9 (by kernel_rfl) [.int .i64 xek, .int .i64 xea, .int .i64 xen, .string xes, .slice Ae x.expr.args.length ace] (blkRange HK1.out 9 rfl) rfl (by kernel_rfl)) ?_
        refine wl_k (some 70) (.pointer (some ⟨G2, 9, none⟩)) ?_
        refine wl_e (some 71) (.agg #[.int .i64 yek, .int .i64 yea, .int .i64 yen, .string yes, .slice Be y.expr.args.length bce]) (run_loadRow 49 (.tmp 70) rfl elTE G2 9 (by kernel_rfl) [.int .i64 yek, .int .i64 yea, .int .i64 yen, .string yes, .slice Be y.expr.args.length bce] (blkRange HK2.out 9 rfl) rfl (by kernel_rfl)) ?_
        refine wl_k (some 72) (.bool true) ?_
        refine wl_cl (some 73) 49 #[.agg #[.int .i64 xek, .int .i64 xea, .int .i64 xen, .string xes, .slice Ae x.expr.args.length ace], .agg #[.int .i64 yek, .int .i64 yea, .int .i64 yen, .string yes, .slice Be y.expr.args.length bce], .bool true] (HFE.out _ HX.out) ?_
        rintro r W3 ⟨rfl, hb⟩
        replace HX := Hi_ (HX.out.tr hb)
        replace HK1 := Hi_ (HK1.out.keep hb)
        replace HK2 := Hi_ (HK2.out.keep hb)
        clear hb
        refine ⟨_, rfl, ?_⟩
        cases bE with
        | false =>
         rw [Bool.false_and] at HE
         refine wl_c 29 74 [.bool true, .bool true, .bool true, uD, uD, uD, uD, uD, uD, uD, .bool true, .bool true, uD, uD, uD, uD, uD, uD, uD, .bool true, .bool true, uD, uD, uD, uD, uD, uD, uD, .bool true] ?_
         refine wl_nil ?_
         try simp only [sP, Act.put, lA, lB, lC]
         try go_wp2
         go_meet
         exact ⟨by rw [← HE.out]; rfl, HX⟩
        | true =>
         rw [Bool.true_and] at HE
         refine wl_c 4 74 [.bool false, .bool false, .bool false, .pointer (some ⟨G1, 14, none⟩)] ?_
         refine wl_e (some 78) (.slice Aa x.args.length aca) (rl_es_ (HK1.out.cell (i := 14) (v := .slice Aa x.args.length aca) rfl)) ?_
         refine wl_k (some 79) (.pointer (some ⟨G2, 14, none⟩)) ?_
         refine wl_e (some 80) (.slice Ba y.args.length bca) (rl_es_ (HK2.out.cell (i := 14) (v := .slice Ba y.args.length bca) rfl)) ?_
         refine wl_k (some 81) (.bool true) ?_
         refine wl_cl (some 82) 89 #[.slice Aa x.args.length aca, .slice Ba y.args.length bca, .bool true] (HFA.out _ HX.out) ?_
         rintro r W3 ⟨rfl, hb⟩
         replace HX := Hi_ (HX.out.tr hb)
         replace HK1 := Hi_ (HK1.out.keep hb)
         replace HK2 := Hi_ (HK2.out.keep hb)
         clear hb
         refine ⟨_, rfl, ?_⟩
         cases bA with
         | false =>
          rw [Bool.false_and] at HE
          refine wl_c 20 83 [.bool true, .bool true, .bool true, uD, uD, uD, uD, uD, uD, uD, .bool true, .bool true, uD, uD, uD, uD, uD, uD, uD, .bool true] ?_
          refine wl_nil ?_
          try simp only [sP, Act.put, lA, lB, lC]
          try go_wp2
          go_meet
          exact ⟨by rw [← HE.out]; rfl, HX⟩
         | true =>
          rw [Bool.true_and] at HE
          refine wl_c 4 83 [.bool false, .bool false, .bool false, .pointer (some ⟨G1, 15, none⟩)] ?_
          refine wl_e (some 87) (.slice At x.thn.length act) (rl_cs_ (HK1.out.cell (i := 15) (v := .slice At x.thn.length act) rfl)) ?_
          refine wl_k (some 88) (.pointer (some ⟨G2, 15, none⟩)) ?_
          refine wl_e (some 89) (.slice Bt y.thn.length bct) (rl_cs_ (HK2.out.cell (i := 15) (v := .slice Bt y.thn.length bct) rfl)) ?_
          refine wl_k (some 90) (.bool true) ?_
          refine wl_cl (some 91) 48 #[.slice At x.thn.length act, .slice Bt y.thn.length bct, .bool true] (HFT.out _ HX.out) ?_
          rintro r W3 ⟨rfl, hb⟩
          replace HX := Hi_ (HX.out.tr hb)
          replace HK1 := Hi_ (HK1.out.keep hb)
          replace HK2 := Hi_ (HK2.out.keep hb)
          clear hb
          refine ⟨_, rfl, ?_⟩
          cases bT with
          | false =>
           rw [Bool.false_and] at HE
           refine wl_c 11 92 [.bool true, .bool true, .bool true, uD, uD, uD, uD, uD, uD, uD, .bool true] ?_
           refine wl_nil ?_
           try simp only [sP, Act.put, lA, lB, lC]
           try go_wp2
           go_meet
           exact ⟨by rw [← HE.out]; rfl, HX⟩
          | true =>
           rw [Bool.true_and] at HE
           refine wl_c 4 92 [.bool false, .bool false, .bool false, .pointer (some ⟨G1, 16, none⟩)] ?_
           refine wl_e (some 96) (.slice Al x.els.length acl) (rl_cs_ (HK1.out.cell (i := 16) (v := .slice Al x.els.length acl) rfl)) ?_
           refine wl_k (some 97) (.pointer (some ⟨G2, 16, none⟩)) ?_
           refine wl_e (some 98) (.slice Bl y.els.length bcl) (rl_cs_ (HK2.out.cell (i := 16) (v := .slice Bl y.els.length bcl) rfl)) ?_
           refine wl_k (some 99) (.bool true) ?_
           refine wl_cl (some 100) 48 #[.slice Al x.els.length acl, .slice Bl y.els.length bcl, .bool true] (HFL.out _ HX.out) ?_
           rintro r W3 ⟨rfl, hb⟩
           replace HX := Hi_ (HX.out.tr hb)
           replace HK1 := Hi_ (HK1.out.keep hb)
           replace HK2 := Hi_ (HK2.out.keep hb)
           clear hb
           refine ⟨_, rfl, ?_⟩
           cases bL with
           | false =>
            refine wl_c 2 101 [.bool true, .bool true] ?_
            refine wl_nil ?_
            try simp only [sP, Act.put, lA, lB, lC]
            try go_wp2
            go_meet
            exact ⟨by rw [← HE.out]; rfl, HX⟩
           | true =>
            refine wl_c 2 101 [.bool false, .bool false] ?_
            refine wl_nil ?_
            try simp only [sP, Act.put, lA, lB, lC]
            try go_wp2
            go_meet
            exact ⟨by rw [← HE.out]; rfl, HX⟩
     case rest =>
      obtain ⟨rfl, HX2⟩ := hcut
      clear HX HE HFI HFE HFA HFT HFL HK1 HK2
      cases SM with
      | false =>
       have HR : Hid (false = T) := Hi_ (by rw [← HD.out, Bool.false_and])
       go_wp2
       go_ret
       exact ⟨by rw [← HR.out]; rfl, HB.out.tr HX2.out⟩
      | true =>
       have HD2 : Hid (sameCs f (xs.drop (j + 1)) (ys.drop (j + 1)) = T) := Hi_ (by rw [← HD.out, Bool.true_and])
       go_wp2
       go_roundw
       case rel => exact ⟨j + 1, by omega, by go_num, HD2, Hi_ (HB.out.tr HX2.out)⟩
       case measure => simp [intOf]; omega
   ·obtain rfl : j = xs.length := by omega
    have hdd : decide ((xs.length : Int) < xs.length) = false := decide_eq_false (by omega)
    have HR : Hid (true = T) := Hi_ (by rw [← HS.out, sameCs_end (Nat.le_refl _) (by rw [HLE.out]; exact Nat.le_refl _)])
    go_wp2
    go_ret
    exact ⟨by rw [← HR.out]; rfl, HB.out⟩
end Go.Proofs.YtmfjlcpjemccmaaGreatDoor
