/- Are two commands the same, by the program: walked. Each lemma states its own conditions. -/
import Derived.Test.YtmfjlcpjemccmaaGreatDoorSms30
namespace Go.Proofs.YtmfjlcpjemccmaaGreatDoor
open Go.RowKit
set_option maxRecDepth 20000 in
set_option maxHeartbeats 4000000 in
theorem eqfC_step (xs ys : List TC) (va vb : Value) (w : World) (ha : Sl tcR w va xs) (hb : Sl tcR w vb ys)
  (IH : ∀ x ∈ xs, ∀ (y : TC) (cs cs' : List Value) (W : World), tcR.R W cs x → tcR.R W cs' y → Calls Tryz.prog 87 #[.agg cs.toArray, .agg cs'.toArray] W fun r w' => r = .returned (.bool (x.same false y)) ∧ Bel W w') :
  Calls Tryz.prog 86 #[va, vb, .func (.func 87) #[] #[]] w fun r w' => r = .returned (.bool (sameCs false xs ys)) ∧ Bel w w' := by
 have HSA := Hi_ ha
 have HSB := Hi_ hb
 obtain ⟨A, c, rfl, hc, hm, -⟩ := ha
 obtain ⟨B, d, rfl, hd, hm2, -⟩ := hb
 have HI := Hi_ IH
 have hl1 : xs.length ≤ 9223372036854775807 := by have := hm.1; simp only [maxLen] at this; omega
 have hl2 : ys.length ≤ 9223372036854775807 := by have := hm2.1; simp only [maxLen] at this; omega
 clear IH hm hm2 hc hd
 by_cases hlen : xs.length = ys.length
 rotate_left
 ·have HT := Hi_ (sameCs_len (f := false) hlen)
  have d0 : ((xs.length : Int) != ys.length) = true := by simp; omega
  clear hlen
  go_enter Tryz.func86, Tryz.ntmps86
  go_wp2
  go_ret
  exact ⟨by rw [HT.out]; rfl, Bel.rfl_ w⟩
 ·have d0 : ((xs.length : Int) != ys.length) = false := by simp; omega
  have HT : Hid (sameCs false (xs.drop 0) (ys.drop 0) = sameCs false xs ys) := Hi_ rfl
  have HRF := Hi_ (Bel.rfl_ w)
  have HLE := Hi_ hlen
  generalize sameCs false xs ys = T at *
  clear hlen
  go_enter Tryz.func86, Tryz.ntmps86
  go_wp2
  go_loopw [17] (fun t wr => ∃ j : Nat, j ≤ xs.length ∧ t = .int .i64 j ∧ Hid (sameCs false (xs.drop j) (ys.drop j) = T) ∧ Hid (Bel w wr)) (fun t _ => xs.length - (intOf t).toNat)
  case atStart => exact ⟨0, by omega, rfl, HT, HRF⟩
  case round =>
   obtain ⟨j, hj, rfl, HS, HB⟩ := hrel
   obtain ⟨WO, hWO⟩ : ∃ W, W = wr := ⟨_, rfl⟩
   subst hWO
   clear HT HRF
   by_cases hlt : j < xs.length
   ·have hdd : decide ((j : Int) < xs.length) = true := decide_eq_true (by omega)
    have hlt2 : j < ys.length := by have := HLE.out; omega
    obtain ⟨x, hx⟩ : ∃ x, xs[j]? = some x := ⟨_, List.getElem?_eq_getElem hlt⟩
    obtain ⟨y, hy⟩ : ∃ y, ys[j]? = some y := ⟨_, List.getElem?_eq_getElem hlt2⟩
    obtain ⟨b, o, rfl, hA⟩ := (HSA.out.keep HB.out).lies (by omega)
    obtain ⟨b', o', rfl, hB⟩ := (HSB.out.keep HB.out).lies (by omega)
    obtain ⟨cs, hcs, hca⟩ := hA j x hx
    obtain ⟨cs', hcs', hca'⟩ := hB j y hy
    have HIX := Hi_ (fun W (hb : Bel WO W) => HI.out x (List.mem_of_getElem? hx) y cs cs' W (tcR.keep hb hcs) (tcR.keep hb hcs'))
    have HD : Hid ((x.same false y && sameCs false (xs.drop (j + 1)) (ys.drop (j + 1))) = T) := Hi_ (by rw [← sameCs_drop hx hy]; exact HS.out)
    have i0 : (0 : Int) ≤ j := by omega
    have i1 : (j : Int) < xs.length := by omega
    have i2 : (j : Int) < ys.length := by omega
    have HL := Hi_ (tcR.len hcs)
    have HON := Hi_ (tcR_one hcs)
    have HCA : Hid (CellsAt WO b (o + j * 17) cs) := Hi_ hca
    have HL' := Hi_ (tcR.len hcs')
    have HON' := Hi_ (tcR_one hcs')
    have HCA' : Hid (CellsAt WO b' (o' + j * 17) cs') := Hi_ hca'
    clear hcs hca hcs' hca' hx hy HI HS hA hB
    go_upto_region 5 with fail
    refine wl_region ?_
    try dsimp only [List.append]
    refine wl_k (some 19) (.int .i64 j) ?_
    refine wl_e (some 20) (.pointer (some ⟨b, o + j * 17, none⟩)) (by go_simp) ?_
    refine wl_e (some 21) (.agg cs.toArray) (run_loadRow 53 (.tmp 20) rfl elTC b (o + j * 17) (by kernel_rfl) cs HCA.out HL.out (by kernel_rfl)) ?_
    refine wl_alloc (some 8) rfl 53 rfl rfl elTC fun z hz => ?_
    refine wl_k (some 7) (.int .i64 j) ?_
    refine wl_store none rfl 53 (.tmp 8) (.tmp 21) rfl rfl elTC WO.heap.size cs (by kernel_rfl) (by kernel_rfl) (Blk.new WO 53 z) hz HL.out HON.out ?_
    have HX : Hid (Bel WO ((WO.alloc (.cells z 53)).setRow WO.heap.size cs.toArray)) := Hi_ (((Bel.rfl_ WO).al _).row (Nat.le_refl _) _)
    have HK1 := Hi_ ((Blk.new WO 53 z).row_same cs.toArray)
    clear hz
    generalize (WO.alloc (.cells z 53)).setRow WO.heap.size cs.toArray = W1 at *
    generalize WO.heap.size = G1 at *
    refine wl_nil ?_
    try simp only [Act.put, lA, lB, lC]
    go_upto_region 6 with fail
    refine wl_region ?_
    try dsimp only [List.append]
    refine wl_k (some 22) (.slice (some ⟨b', o', none⟩) ys.length d) ?_
    refine wl_k (some 23) (.int .i64 j) ?_
    refine wl_e (some 24) (.pointer (some ⟨b', o' + j * 17, none⟩)) (by go_simp) ?_
    refine wl_e (some 25) (.agg cs'.toArray) (run_loadRow 53 (.tmp 24) rfl elTC b' (o' + j * 17) (by kernel_rfl) cs' (HCA'.out.keep HX.out) HL'.out (by kernel_rfl)) ?_
    refine wl_alloc (some 9) rfl 53 rfl rfl elTC fun z hz => ?_
    refine wl_store none rfl 53 (.tmp 9) (.tmp 25) rfl rfl elTC W1.heap.size cs' (by kernel_rfl) (by kernel_rfl) (Blk.new W1 53 z) hz HL'.out HON'.out ?_
    have HX2 : Hid (Bel W1 ((W1.alloc (.cells z 53)).setRow W1.heap.size cs'.toArray)) := Hi_ (((Bel.rfl_ W1).al _).row (Nat.le_refl _) _)
    have HK2 := Hi_ ((Blk.new W1 53 z).row_same cs'.toArray)
    clear hz
    generalize (W1.alloc (.cells z 53)).setRow W1.heap.size cs'.toArray = W2 at *
    generalize W1.heap.size = G2 at *
    replace HK1 := Hi_ (HK1.out.keep HX2.out)
    replace HX := Hi_ (HX.out.tr HX2.out)
    clear HX2
    refine wl_nil ?_
    try simp only [Act.put, lA, lB, lC]
    go_upto_region 7 with fail
    refine wl_region ?_
    try dsimp only [List.append]
    refine wl_k (some 26) (.func (.func 87) #[] #[]) ?_
    refine wl_e (some 27) (.agg cs.toArray) (run_loadRow 53 (.tmp 8) rfl elTC G1 0 (by kernel_rfl) cs (blk_all HK1.out) HL.out (by kernel_rfl)) ?_
    refine wl_e (some 28) (.agg cs'.toArray) (run_loadRow 53 (.tmp 9) rfl elTC G2 0 (by kernel_rfl) cs' (blk_all HK2.out) HL'.out (by kernel_rfl)) ?_
    refine wl_cl (some 29) 87 #[.agg cs.toArray, .agg cs'.toArray] (HIX.out _ HX.out) ?_
    rintro r W3 ⟨rfl, hb⟩
    replace HX := Hi_ (HX.out.tr hb)
    clear hb HK1 HK2
    refine ⟨_, rfl, ?_⟩
    generalize x.same false y = sm at *
    refine wl_k (some 30) (.bool (!sm)) ?_
    refine wl_nil ?_
    try simp only [Act.put, lA, lB, lC]
    cases sm with
    | true =>
     have HD2 : Hid (sameCs false (xs.drop (j + 1)) (ys.drop (j + 1)) = T) := Hi_ (by rw [← HD.out, Bool.true_and])
     go_wp2
     go_roundw
     case rel => exact ⟨j + 1, by omega, by go_num, HD2, Hi_ (HB.out.tr HX.out)⟩
     case measure => simp [intOf]; omega
    | false =>
     have HD2 : Hid (false = T) := Hi_ (by rw [← HD.out, Bool.false_and])
     go_wp2
     go_ret
     exact ⟨by rw [← HD2.out]; rfl, HB.out.tr HX.out⟩
   ·obtain rfl : j = xs.length := by omega
    have hdd : decide ((xs.length : Int) < xs.length) = false := decide_eq_false (by omega)
    have HR : Hid (true = T) := Hi_ (by rw [← HS.out, sameCs_end (Nat.le_refl _) (by rw [HLE.out]; exact Nat.le_refl _)])
    go_wp2
    go_ret
    exact ⟨by rw [← HR.out]; rfl, HB.out⟩
set_option maxRecDepth 20000 in
set_option maxHeartbeats 4000000 in
theorem samePC_step (x y : TC) (cs cs' : List Value) (w : World) (ha : TCR w x cs) (hb : TCR w y cs')
  (IHT : ∀ z ∈ x.thn, ∀ (y : TC) (cs cs' : List Value) (W : World), TCR W z cs → TCR W y cs' → Calls Tryz.prog 87 #[.agg cs.toArray, .agg cs'.toArray] W fun r w' => r = .returned (.bool (z.same false y)) ∧ Bel W w')
  (IHE : ∀ z ∈ x.els, ∀ (y : TC) (cs cs' : List Value) (W : World), TCR W z cs → TCR W y cs' → Calls Tryz.prog 87 #[.agg cs.toArray, .agg cs'.toArray] W fun r w' => r = .returned (.bool (z.same false y)) ∧ Bel W w') :
  Calls Tryz.prog 87 #[.agg cs.toArray, .agg cs'.toArray] w fun r w' => r = .returned (.bool (x.same false y)) ∧ Bel w w' := by
 obtain ⟨vi, ve, va, vt, vs, rfl, -, -, hin, hen, hsi, hse, hsa, hst, hsl⟩ := tcCells ha
 obtain ⟨vi', ve', va', vt', vs', rfl, -, -, hin', hen', hsi', hse', hsa', hst', hsl'⟩ := tcCells hb
 have HFI : Hid (∀ W, Bel w W → Calls Tryz.prog 88 #[.agg #[.int .i64 x.index.kind, .int .i64 x.index.at_, .int .i64 x.index.n, .string x.index.name, vi], .agg #[.int .i64 y.index.kind, .int .i64 y.index.at_, .int .i64 y.index.n, .string y.index.name, vi']] W fun r w' => r = .returned (.bool (x.index.same false y.index)) ∧ Bel W w') := Hi_ fun W hb => sameP_any x.index y.index _ _ W ⟨_, rfl, hin, hsi.keep hb⟩ ⟨_, rfl, hin', hsi'.keep hb⟩
 have HFE : Hid (∀ W, Bel w W → Calls Tryz.prog 88 #[.agg #[.int .i64 x.expr.kind, .int .i64 x.expr.at_, .int .i64 x.expr.n, .string x.expr.name, ve], .agg #[.int .i64 y.expr.kind, .int .i64 y.expr.at_, .int .i64 y.expr.n, .string y.expr.name, ve']] W fun r w' => r = .returned (.bool (x.expr.same false y.expr)) ∧ Bel W w') := Hi_ fun W hb => sameP_any x.expr y.expr _ _ W ⟨_, rfl, hen, hse.keep hb⟩ ⟨_, rfl, hen', hse'.keep hb⟩
 have HFA := Hi_ (fun W (hb : Bel w W) => eqE_any x.args y.args va va' W (hsa.keep hb) (hsa'.keep hb))
 have HFT := Hi_ (fun W (hb : Bel w W) => eqfC_step x.thn y.thn vt vt' W (hst.keep hb) (hst'.keep hb) IHT)
 have HFL := Hi_ (fun W (hb : Bel w W) => eqfC_step x.els y.els vs vs' W (hsl.keep hb) (hsl'.keep hb) IHE)
 have HE : Hid ((decide (x.kind = y.kind) && (decide (x.name = y.name) && (decide (x.other = y.other) && (x.index.same false y.index && (x.expr.same false y.expr && (sameEs false x.args y.args && (sameCs false x.thn y.thn && sameCs false x.els y.els))))))) = x.same false y) := Hi_ (by rw [TC.same_eq]; simp)
 obtain ⟨Ai, aci, rfl, -⟩ := hsi
 obtain ⟨Ae, ace, rfl, -⟩ := hse
 obtain ⟨Aa, aca, rfl, -⟩ := hsa
 obtain ⟨At, act, rfl, -⟩ := hst
 obtain ⟨Al, acl, rfl, -⟩ := hsl
 obtain ⟨Bi, bci, rfl, -⟩ := hsi'
 obtain ⟨Be, bce, rfl, -⟩ := hse'
 obtain ⟨Ba, bca, rfl, -⟩ := hsa'
 obtain ⟨Bt, bct, rfl, -⟩ := hst'
 obtain ⟨Bl, bcl, rfl, -⟩ := hsl'
 clear hin hen hin' hen' IHT IHE ha hb
 generalize x.same false y = T at *
 generalize x.index.same false y.index = bI at *
 generalize x.expr.same false y.expr = bE at *
 generalize sameEs false x.args y.args = bA at *
 generalize sameCs false x.thn y.thn = bT at *
 generalize sameCs false x.els y.els = bL at *
 generalize x.index.kind = xik at *
 generalize x.index.at_ = xia at *
 generalize x.index.n = xin at *
 generalize x.index.name = xis at *
 generalize x.expr.kind = xek at *
 generalize x.expr.at_ = xea at *
 generalize x.expr.n = xen at *
 generalize x.expr.name = xes at *
 generalize x.kind = xk at *
 generalize x.at_ = xa at *
 generalize x.name = xn at *
 generalize x.other = xo at *
 generalize y.index.kind = yik at *
 generalize y.index.at_ = yia at *
 generalize y.index.n = yin at *
 generalize y.index.name = yis at *
 generalize y.expr.kind = yek at *
 generalize y.expr.at_ = yea at *
 generalize y.expr.n = yen at *
 generalize y.expr.name = yes at *
 generalize y.kind = yk at *
 generalize y.at_ = ya at *
 generalize y.name = yn at *
 generalize y.other = yo at *
 have HK1 := Hi_ ((Blk.new w 53 #[.int .i64 xk, .int .i64 xa, .string xn, .string xo, .int .i64 xik, .int .i64 xia, .int .i64 xin, .string xis, .slice Ai x.index.args.length aci, .int .i64 xek, .int .i64 xea, .int .i64 xen, .string xes, .slice Ae x.expr.args.length ace, .slice Aa x.args.length aca, .slice At x.thn.length act, .slice Al x.els.length acl]).keep ((Bel.rfl_ _).al (.cells #[.int .i64 yk, .int .i64 ya, .string yn, .string yo, .int .i64 yik, .int .i64 yia, .int .i64 yin, .string yis, .slice Bi y.index.args.length bci, .int .i64 yek, .int .i64 yea, .int .i64 yen, .string yes, .slice Be y.expr.args.length bce, .slice Ba y.args.length bca, .slice Bt y.thn.length bct, .slice Bl y.els.length bcl] 53)))
 have HK2 := Hi_ (Blk.new (w.alloc (.cells #[.int .i64 xk, .int .i64 xa, .string xn, .string xo, .int .i64 xik, .int .i64 xia, .int .i64 xin, .string xis, .slice Ai x.index.args.length aci, .int .i64 xek, .int .i64 xea, .int .i64 xen, .string xes, .slice Ae x.expr.args.length ace, .slice Aa x.args.length aca, .slice At x.thn.length act, .slice Al x.els.length acl] 53)) 53 #[.int .i64 yk, .int .i64 ya, .string yn, .string yo, .int .i64 yik, .int .i64 yia, .int .i64 yin, .string yis, .slice Bi y.index.args.length bci, .int .i64 yek, .int .i64 yea, .int .i64 yen, .string yes, .slice Be y.expr.args.length bce, .slice Ba y.args.length bca, .slice Bt y.thn.length bct, .slice Bl y.els.length bcl])
 rw [alloc_size] at HK2
 have HX := Hi_ (((Bel.rfl_ w).al (.cells #[.int .i64 xk, .int .i64 xa, .string xn, .string xo, .int .i64 xik, .int .i64 xia, .int .i64 xin, .string xis, .slice Ai x.index.args.length aci, .int .i64 xek, .int .i64 xea, .int .i64 xen, .string xes, .slice Ae x.expr.args.length ace, .slice Aa x.args.length aca, .slice At x.thn.length act, .slice Al x.els.length acl] 53)).al (.cells #[.int .i64 yk, .int .i64 ya, .string yn, .string yo, .int .i64 yik, .int .i64 yia, .int .i64 yin, .string yis, .slice Bi y.index.args.length bci, .int .i64 yek, .int .i64 yea, .int .i64 yen, .string yes, .slice Be y.expr.args.length bce, .slice Ba y.args.length bca, .slice Bt y.thn.length bct, .slice Bl y.els.length bcl] 53))
 go_enter Tryz.func87, Tryz.ntmps87
 go_upto_region 1 with fail
 generalize (w.alloc (.cells #[.int .i64 xk, .int .i64 xa, .string xn, .string xo, .int .i64 xik, .int .i64 xia, .int .i64 xin, .string xis, .slice Ai x.index.args.length aci, .int .i64 xek, .int .i64 xea, .int .i64 xen, .string xes, .slice Ae x.expr.args.length ace, .slice Aa x.args.length aca, .slice At x.thn.length act, .slice Al x.els.length acl] 53)).alloc (.cells #[.int .i64 yk, .int .i64 ya, .string yn, .string yo, .int .i64 yik, .int .i64 yia, .int .i64 yin, .string yis, .slice Bi y.index.args.length bci, .int .i64 yek, .int .i64 yea, .int .i64 yen, .string yes, .slice Be y.expr.args.length bce, .slice Ba y.args.length bca, .slice Bt y.thn.length bct, .slice Bl y.els.length bcl] 53) = W0 at *
 generalize w.heap.size + 1 = G2 at *
 generalize w.heap.size = G1 at *
 refine wl_region ?_
 try dsimp only [List.append]
 refine wl_k (some 5) (.pointer (some ⟨G1, 0, none⟩)) ?_
 refine wl_e (some 6) (.int .i64 xk) (rl_int_ (HK1.out.cell (i := 0) (v := .int .i64 xk) rfl)) ?_
 refine wl_k (some 7) (.pointer (some ⟨G2, 0, none⟩)) ?_
 refine wl_e (some 8) (.int .i64 yk) (rl_int_ (HK2.out.cell (i := 0) (v := .int .i64 yk) rfl)) ?_
 by_cases h_k : xk = yk
 rotate_left
 ·have d_k : (xk == yk) = false := by simpa using h_k
  rw [decide_eq_false h_k, Bool.false_and] at HE
  refine wl_e (some 9) (.bool false) (rb_eqlI rfl (by kernel_rfl) (by kernel_rfl) d_k) ?_
  refine wl_c 49 10 [.bool false, uD, uD, uD, uD, uD, .bool false, .bool false, uD, uD, uD, uD, uD, .bool false, .bool false, uD, uD, uD, uD, uD, .bool false, .bool false, uD, uD, uD, uD, uD, .bool false, .bool false, uD, uD, uD, uD, uD, .bool false, .bool false, uD, uD, uD, uD, uD, .bool false, .bool false, uD, uD, uD, uD, uD, .bool false] ?_
  refine wl_k (some 4) (.bool false) ?_
  refine wl_nil ?_
  try simp only [sP, Act.put, lA, lB, lC]
  go_wp2
  go_ret
  exact ⟨by rw [← HE.out]; rfl, HX.out⟩
 have d_k : (xk == yk) = true := by simpa using h_k
 rw [decide_eq_true h_k, Bool.true_and] at HE
 refine wl_e (some 9) (.bool true) (rb_eqlI rfl (by kernel_rfl) (by kernel_rfl) d_k) ?_
 refine wl_c 2 10 [.bool true, .pointer (some ⟨G1, 2, none⟩)] ?_
 refine wl_e (some 12) (.string xn) (rl_str_ (HK1.out.cell (i := 2) (v := .string xn) rfl)) ?_
 refine wl_k (some 13) (.pointer (some ⟨G2, 2, none⟩)) ?_
 refine wl_e (some 14) (.string yn) (rl_str_ (HK2.out.cell (i := 2) (v := .string yn) rfl)) ?_
 by_cases h_n : xn = yn
 rotate_left
 ·have d_n : (xn.toList == yn.toList) = false := str_false h_n
  rw [decide_eq_false h_n, Bool.false_and] at HE
  refine wl_e (some 15) (.bool false) (rb_eqlS rfl (by kernel_rfl) (by kernel_rfl) d_n) ?_
  refine wl_c 43 16 [.bool false, .bool false, uD, uD, uD, uD, uD, .bool false, .bool false, uD, uD, uD, uD, uD, .bool false, .bool false, uD, uD, uD, uD, uD, .bool false, .bool false, uD, uD, uD, uD, uD, .bool false, .bool false, uD, uD, uD, uD, uD, .bool false, .bool false, uD, uD, uD, uD, uD, .bool false] ?_
  refine wl_k (some 4) (.bool false) ?_
  refine wl_nil ?_
  try simp only [sP, Act.put, lA, lB, lC]
  go_wp2
  go_ret
  exact ⟨by rw [← HE.out]; rfl, HX.out⟩
 have d_n : (xn.toList == yn.toList) = true := str_true h_n
 rw [decide_eq_true h_n, Bool.true_and] at HE
 refine wl_e (some 15) (.bool true) (rb_eqlS rfl (by kernel_rfl) (by kernel_rfl) d_n) ?_
 refine wl_c 3 16 [.bool true, .bool true, .pointer (some ⟨G1, 3, none⟩)] ?_
 refine wl_e (some 19) (.string xo) (rl_str_ (HK1.out.cell (i := 3) (v := .string xo) rfl)) ?_
 refine wl_k (some 20) (.pointer (some ⟨G2, 3, none⟩)) ?_
 refine wl_e (some 21) (.string yo) (rl_str_ (HK2.out.cell (i := 3) (v := .string yo) rfl)) ?_
 by_cases h_o : xo = yo
 rotate_left
 ·have d_o : (xo.toList == yo.toList) = false := str_false h_o
  rw [decide_eq_false h_o, Bool.false_and] at HE
  refine wl_e (some 22) (.bool false) (rb_eqlS rfl (by kernel_rfl) (by kernel_rfl) d_o) ?_
  refine wl_c 36 23 [.bool false, .bool false, uD, uD, uD, uD, uD, .bool false, .bool false, uD, uD, uD, uD, uD, .bool false, .bool false, uD, uD, uD, uD, uD, .bool false, .bool false, uD, uD, uD, uD, uD, .bool false, .bool false, uD, uD, uD, uD, uD, .bool false] ?_
  refine wl_k (some 4) (.bool false) ?_
  refine wl_nil ?_
  try simp only [sP, Act.put, lA, lB, lC]
  go_wp2
  go_ret
  exact ⟨by rw [← HE.out]; rfl, HX.out⟩
 have d_o : (xo.toList == yo.toList) = true := str_true h_o
 rw [decide_eq_true h_o, Bool.true_and] at HE
 refine wl_e (some 22) (.bool true) (rb_eqlS rfl (by kernel_rfl) (by kernel_rfl) d_o) ?_
 refine wl_c 3 23 [.bool true, .bool true, .pointer (some ⟨G1, 4, none⟩)] ?_
 refine wl_e (some 26) (.agg #[.int .i64 xik, .int .i64 xia, .int .i64 xin, .string xis, .slice Ai x.index.args.length aci]) (run_loadRow 49 (.tmp 25) rfl elTE G1 4 (by kernel_rfl) [.int .i64 xik, .int .i64 xia, .int .i64 xin, .string xis, .slice Ai x.index.args.length aci] (blkRange HK1.out 4 rfl) rfl (by kernel_rfl)) ?_
 refine wl_k (some 27) (.pointer (some ⟨G2, 4, none⟩)) ?_
 refine wl_e (some 28) (.agg #[.int .i64 yik, .int .i64 yia, .int .i64 yin, .string yis, .slice Bi y.index.args.length bci]) (run_loadRow 49 (.tmp 27) rfl elTE G2 4 (by kernel_rfl) [.int .i64 yik, .int .i64 yia, .int .i64 yin, .string yis, .slice Bi y.index.args.length bci] (blkRange HK2.out 4 rfl) rfl (by kernel_rfl)) ?_
 refine wl_cl (some 29) 88 #[.agg #[.int .i64 xik, .int .i64 xia, .int .i64 xin, .string xis, .slice Ai x.index.args.length aci], .agg #[.int .i64 yik, .int .i64 yia, .int .i64 yin, .string yis, .slice Bi y.index.args.length bci]] (HFI.out _ HX.out) ?_
 rintro r W3 ⟨rfl, hb⟩
 replace HX := Hi_ (HX.out.tr hb)
 replace HK1 := Hi_ (HK1.out.keep hb)
 replace HK2 := Hi_ (HK2.out.keep hb)
 clear hb
 refine ⟨_, rfl, ?_⟩
 cases bI with
 | false =>
  rw [Bool.false_and] at HE
  refine wl_c 29 30 [.bool false, .bool false, uD, uD, uD, uD, uD, .bool false, .bool false, uD, uD, uD, uD, uD, .bool false, .bool false, uD, uD, uD, uD, uD, .bool false, .bool false, uD, uD, uD, uD, uD, .bool false] ?_
  refine wl_k (some 4) (.bool false) ?_
  refine wl_nil ?_
  try simp only [sP, Act.put, lA, lB, lC]
  go_wp2
  go_ret
  exact ⟨by rw [← HE.out]; rfl, HX.out⟩
 | true =>
  rw [Bool.true_and] at HE
  refine wl_c 3 30 [.bool true, .bool true, .pointer (some ⟨G1, 9, none⟩)] ?_
  refine wl_e (some 33) (.agg #[.int .i64 xek, .int .i64 xea, .int .i64 xen, .string xes, .slice Ae x.expr.args.length ace]) (run_loadRow 49 (.tmp 32) rfl elTE G1 9 (by kernel_rfl) [.int .i64 xek, .int .i64 xea, .int .i64 xen, .string xes, .slice Ae x.expr.args.length ace] (blkRange HK1.out 9 rfl) rfl (by kernel_rfl)) ?_
  refine wl_k (some 34) (.pointer (some ⟨G2, 9, none⟩)) ?_
  refine wl_e (some 35) (.agg #[.int .i64 yek, .int .i64 yea, .int .i64 yen, .string yes, .slice Be y.expr.args.length bce]) (run_loadRow 49 (.tmp 34) rfl elTE G2 9 (by kernel_rfl) [.int .i64 yek, .int .i64 yea, .int .i64 yen, .string yes, .slice Be y.expr.args.length bce] (blkRange HK2.out 9 rfl) rfl (by kernel_rfl)) ?_
  refine wl_cl (some 36) 88 #[.agg #[.int .i64 xek, .int .i64 xea, .int .i64 xen, .string xes, .slice Ae x.expr.args.length ace], .agg #[.int .i64 yek, .int .i64 yea, .int .i64 yen, .string yes, .slice Be y.expr.args.length bce]] (HFE.out _ HX.out) ?_
  rintro r W3 ⟨rfl, hb⟩
  replace HX := Hi_ (HX.out.tr hb)
  replace HK1 := Hi_ (HK1.out.keep hb)
  replace HK2 := Hi_ (HK2.out.keep hb)
  clear hb
  refine ⟨_, rfl, ?_⟩
  cases bE with
  | false =>
   rw [Bool.false_and] at HE
   refine wl_c 22 37 [.bool false, .bool false, uD, uD, uD, uD, uD, .bool false, .bool false, uD, uD, uD, uD, uD, .bool false, .bool false, uD, uD, uD, uD, uD, .bool false] ?_
   refine wl_k (some 4) (.bool false) ?_
   refine wl_nil ?_
   try simp only [sP, Act.put, lA, lB, lC]
   go_wp2
   go_ret
   exact ⟨by rw [← HE.out]; rfl, HX.out⟩
  | true =>
   rw [Bool.true_and] at HE
   refine wl_c 3 37 [.bool true, .bool true, .pointer (some ⟨G1, 14, none⟩)] ?_
   refine wl_e (some 40) (.slice Aa x.args.length aca) (rl_es_ (HK1.out.cell (i := 14) (v := .slice Aa x.args.length aca) rfl)) ?_
   refine wl_k (some 41) (.pointer (some ⟨G2, 14, none⟩)) ?_
   refine wl_e (some 42) (.slice Ba y.args.length bca) (rl_es_ (HK2.out.cell (i := 14) (v := .slice Ba y.args.length bca) rfl)) ?_
   refine wl_cl (some 43) 137 #[.slice Aa x.args.length aca, .slice Ba y.args.length bca, .func (.func 88) #[] #[]] (HFA.out _ HX.out) ?_
   rintro r W3 ⟨rfl, hb⟩
   replace HX := Hi_ (HX.out.tr hb)
   replace HK1 := Hi_ (HK1.out.keep hb)
   replace HK2 := Hi_ (HK2.out.keep hb)
   clear hb
   refine ⟨_, rfl, ?_⟩
   cases bA with
   | false =>
    rw [Bool.false_and] at HE
    refine wl_c 15 44 [.bool false, .bool false, uD, uD, uD, uD, uD, .bool false, .bool false, uD, uD, uD, uD, uD, .bool false] ?_
    refine wl_k (some 4) (.bool false) ?_
    refine wl_nil ?_
    try simp only [sP, Act.put, lA, lB, lC]
    go_wp2
    go_ret
    exact ⟨by rw [← HE.out]; rfl, HX.out⟩
   | true =>
    rw [Bool.true_and] at HE
    refine wl_c 3 44 [.bool true, .bool true, .pointer (some ⟨G1, 15, none⟩)] ?_
    refine wl_e (some 47) (.slice At x.thn.length act) (rl_cs_ (HK1.out.cell (i := 15) (v := .slice At x.thn.length act) rfl)) ?_
    refine wl_k (some 48) (.pointer (some ⟨G2, 15, none⟩)) ?_
    refine wl_e (some 49) (.slice Bt y.thn.length bct) (rl_cs_ (HK2.out.cell (i := 15) (v := .slice Bt y.thn.length bct) rfl)) ?_
    refine wl_cl (some 50) 86 #[.slice At x.thn.length act, .slice Bt y.thn.length bct, .func (.func 87) #[] #[]] (HFT.out _ HX.out) ?_
    rintro r W3 ⟨rfl, hb⟩
    replace HX := Hi_ (HX.out.tr hb)
    replace HK1 := Hi_ (HK1.out.keep hb)
    replace HK2 := Hi_ (HK2.out.keep hb)
    clear hb
    refine ⟨_, rfl, ?_⟩
    cases bT with
    | false =>
     rw [Bool.false_and] at HE
     refine wl_c 8 51 [.bool false, .bool false, uD, uD, uD, uD, uD, .bool false] ?_
     refine wl_k (some 4) (.bool false) ?_
     refine wl_nil ?_
     try simp only [sP, Act.put, lA, lB, lC]
     go_wp2
     go_ret
     exact ⟨by rw [← HE.out]; rfl, HX.out⟩
    | true =>
     rw [Bool.true_and] at HE
     refine wl_c 3 51 [.bool true, .bool true, .pointer (some ⟨G1, 16, none⟩)] ?_
     refine wl_e (some 54) (.slice Al x.els.length acl) (rl_cs_ (HK1.out.cell (i := 16) (v := .slice Al x.els.length acl) rfl)) ?_
     refine wl_k (some 55) (.pointer (some ⟨G2, 16, none⟩)) ?_
     refine wl_e (some 56) (.slice Bl y.els.length bcl) (rl_cs_ (HK2.out.cell (i := 16) (v := .slice Bl y.els.length bcl) rfl)) ?_
     refine wl_cl (some 57) 86 #[.slice Al x.els.length acl, .slice Bl y.els.length bcl, .func (.func 87) #[] #[]] (HFL.out _ HX.out) ?_
     rintro r W3 ⟨rfl, hb⟩
     replace HX := Hi_ (HX.out.tr hb)
     replace HK1 := Hi_ (HK1.out.keep hb)
     replace HK2 := Hi_ (HK2.out.keep hb)
     clear hb
     refine ⟨_, rfl, ?_⟩
     cases bL with
     | false =>
      refine wl_k (some 58) (.bool false) ?_
      refine wl_k (some 4) (.bool false) ?_
      refine wl_nil ?_
      try simp only [sP, Act.put, lA, lB, lC]
      go_wp2
      go_ret
      exact ⟨by rw [← HE.out]; rfl, HX.out⟩
     | true =>
      refine wl_k (some 58) (.bool true) ?_
      refine wl_k (some 4) (.bool true) ?_
      refine wl_nil ?_
      try simp only [sP, Act.put, lA, lB, lC]
      go_wp2
      go_ret
      exact ⟨by rw [← HE.out]; rfl, HX.out⟩
theorem samePC_any (x : TC) : ∀ (y : TC) (cs cs' : List Value) (w : World), TCR w x cs → TCR w y cs' → Calls Tryz.prog 87 #[.agg cs.toArray, .agg cs'.toArray] w fun r w' => r = .returned (.bool (x.same false y)) ∧ Bel w w' := by
 induction x using TC.ind with
 | h k a s t i e args thn els ih1 ih2 => exact fun y cs cs' w ha hb => samePC_step (.mk k a s t i e args thn els) y cs cs' w ha hb ih1 ih2
theorem eqC_any (xs ys : List TC) (va vb : Value) (w : World) (ha : Sl tcR w va xs) (hb : Sl tcR w vb ys) : Calls Tryz.prog 86 #[va, vb, .func (.func 87) #[] #[]] w fun r w' => r = .returned (.bool (sameCs false xs ys)) ∧ Bel w w' :=
 eqfC_step xs ys va vb w ha hb fun x _ => samePC_any x
end Go.Proofs.YtmfjlcpjemccmaaGreatDoor
