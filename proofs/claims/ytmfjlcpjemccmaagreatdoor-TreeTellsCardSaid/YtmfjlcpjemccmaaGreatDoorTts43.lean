/- Are there too many commands, by the program: walked. Each lemma states its own conditions. -/
import Derived.Test.YtmfjlcpjemccmaaGreatDoorTts42
import Derived.Test.YtmfjlcpjemccmaaGreatDoorTts35
namespace Go.Proofs.YtmfjlcpjemccmaaGreatDoor
open Go.RowKit
set_option maxRecDepth 20000 in
theorem great_any (e : TE) (val : Value) (w : World) (h : TEV w e val) : Calls Tryz.prog 98 #[val] w fun r w' => r = .returned (.bool e.great) ∧ Bel w w' := by
 have HS := Hi_ (fun W (hb : Bel w W) => size_any e 15 val W (by decide) (by decide) (h.keep hb))
 obtain ⟨v, rfl, -, A, c, rfl, -⟩ := h
 have HG : Hid (e.great = decide (15 < e.size 15)) := Hi_ rfl
 have hle := TE.size_le e 15 (by decide)
 generalize e.great = T at *
 generalize e.size 15 = z at *
 generalize e.kind = k at *
 generalize e.at_ = a at *
 generalize e.n = n at *
 generalize e.name = s at *
 have HB := Hi_ ((Bel.rfl_ w).al (.cells #[.int .i64 k, .int .i64 a, .int .i64 n, .string s, .slice A e.args.length c] 49))
 go_enter Tryz.func98, Tryz.ntmps98
 go_wp2_with fail
 refine (HS.out _ HB.out).mono ?_
 rintro r w1 ⟨rfl, hb⟩
 go_wp2
 go_ret
 exact ⟨by rw [HG.out]; rfl, HB.out.tr hb⟩
/-- too many, too deep or too great? -/
def MB (l : List TC) (d n : Int) : Bool := !(fineL l d && decide (n + cntL l ≤ 40))
theorem MB_le {l : List TC} {d n : Int} (h : MB l d n = false) : n + cntL l ≤ 40 := by
 unfold MB at h
 rw [Bool.not_eq_false', Bool.and_eq_true] at h
 exact of_decide_eq_true h.2
theorem MB_end {l : List TC} {k : Nat} (h : l.length ≤ k) {d n : Int} (hn : n ≤ 40) : MB (l.drop k) d n = false := by
 unfold MB
 rw [fineL_end h, cntL_end h, decide_eq_true (by omega)]
 rfl
theorem MB_bad {l : List TC} {k : Nat} {x : TC} (hx : l[k]? = some x) {d n : Int} (h : x.fine d = false) : MB (l.drop k) d n = true := by
 unfold MB
 rw [fineL_drop hx, h]
 simp
theorem cnt_pos (x : TC) : 1 ≤ x.cnt := by rw [TC.cnt_eq]; omega
theorem MB_big {l : List TC} {k : Nat} {x : TC} (hx : l[k]? = some x) {d n : Int} (h : 40 < n + 1) : MB (l.drop k) d n = true := by
 unfold MB
 have := cnt_pos x
 rw [cntL_drop hx, decide_eq_false (by omega), Bool.and_false]
 rfl
theorem MB_deep {l : List TC} (h : 0 < l.length) {d n : Int} (hd : 5 < d) : MB l d n = true := by
 cases l with
 | nil => simp at h
 | cons x xs =>
  unfold MB
  rw [fineL, decide_eq_false (by omega)]
  rfl
theorem MB_thn {l : List TC} {k : Nat} {x : TC} (hx : l[k]? = some x) {d n : Int} (h : MB x.thn (d + 1) (n + 1) = true) : MB (l.drop k) d n = true := by
 unfold MB at h ⊢
 rw [fineL_drop hx, cntL_drop hx, TC.fine_eq, TC.cnt_eq]
 cases hf : fineL x.thn (d + 1) with
 | false => simp
 | true =>
  rw [hf, Bool.true_and, Bool.not_eq_true'] at h
  have := of_decide_eq_false h
  have hd : decide (n + ((1 + cntL x.thn + cntL x.els + cntL (l.drop (k + 1)) : Nat) : Int) ≤ 40) = false := decide_eq_false (by omega)
  rw [hd, Bool.and_false]
  rfl
theorem MB_els {l : List TC} {k : Nat} {x : TC} (hx : l[k]? = some x) {d n : Int} (h : MB x.els (d + 1) (n + 1 + cntL x.thn) = true) : MB (l.drop k) d n = true := by
 unfold MB at h ⊢
 rw [fineL_drop hx, cntL_drop hx, TC.fine_eq, TC.cnt_eq]
 cases hf : fineL x.els (d + 1) with
 | false => simp
 | true =>
  rw [hf, Bool.true_and, Bool.not_eq_true'] at h
  have := of_decide_eq_false h
  have hd : decide (n + ((1 + cntL x.thn + cntL x.els + cntL (l.drop (k + 1)) : Nat) : Int) ≤ 40) = false := decide_eq_false (by omega)
  rw [hd, Bool.and_false]
  rfl
theorem MB_fine {l : List TC} {d n : Int} (h : MB l d n = false) : fineL l d = true := by
 unfold MB at h
 rw [Bool.not_eq_false', Bool.and_eq_true] at h
 exact h.1
theorem MB_go {l : List TC} {k : Nat} {x : TC} (hx : l[k]? = some x) {d n : Int} (hd : d ≤ 5) (h1 : x.index.great = false) (h2 : x.expr.great = false) (h3 : ¬ 3 < x.args.length) (h4 : x.args.any TE.great = false) (ht : MB x.thn (d + 1) (n + 1) = false) (he : MB x.els (d + 1) (n + 1 + cntL x.thn) = false) :
  MB (l.drop k) d n = MB (l.drop (k + 1)) d (n + 1 + cntL x.thn + cntL x.els) := by
 have f1 := MB_fine ht
 have f2 := MB_fine he
 unfold MB
 rw [fineL_drop hx, cntL_drop hx, TC.fine_eq, TC.cnt_eq, h1, h2, h4, f1, f2, decide_eq_true hd, decide_eq_true (show x.args.length ≤ 3 by omega)]
 simp only [Bool.not_false, Bool.and_self, Bool.true_and]
 congr 2
 exact decide_eq_decide.2 (by omega)
abbrev CT : TypeId := 146
/-- what much leaves -/
def MuchRes (l : List TC) (d n : Int) (R : Nat) (w : World) (r : Ending) (w' : World) : Prop :=
 r = .returned (.bool (MB l d n)) ∧ w.grownBy w' (some R) ∧ ∃ m : Int, Blk w' R CT #[.int .i64 m] ∧ (MB l d n = false → m = n + cntL l)
theorem much_done {l : List TC} {d n m : Int} {R : Nat} {w w' : World} (h : true = MB l d n) (hg : w.grownBy w' (some R)) (hc : Blk w' R CT #[.int .i64 m]) : MuchRes l d n R w (.returned (.bool true)) w' :=
 ⟨by rw [← h], hg, m, hc, fun e => by rw [← h] at e; cases e⟩
set_option maxRecDepth 20000 in
set_option maxHeartbeats 8000000 in
theorem much_step (w0 : World) (R : Nat) (hR : w0.heap.size ≤ R) (l : List TC) (d n0 : Int) (v : Value) (w : World) (h : Sl tcR w0 v l) (h0 : Bel w0 w) (hc0 : Blk w R CT #[.int .i64 n0]) (h1 : 1 ≤ d) (h6 : d ≤ 6) (hn0 : 0 ≤ n0) (hn1 : n0 ≤ 40)
  (IH : ∀ x ∈ l, (∀ (d n : Int) (v : Value) (W : World), Sl tcR w0 v x.thn → Bel w0 W → Blk W R CT #[.int .i64 n] → 1 ≤ d → d ≤ 6 → 0 ≤ n → n ≤ 40 → Calls Tryz.prog 99 #[.pointer (some ⟨R, 0, none⟩), v, .int .i64 d] W fun r w' => MuchRes x.thn d n R W r w') ∧
   (∀ (d n : Int) (v : Value) (W : World), Sl tcR w0 v x.els → Bel w0 W → Blk W R CT #[.int .i64 n] → 1 ≤ d → d ≤ 6 → 0 ≤ n → n ≤ 40 → Calls Tryz.prog 99 #[.pointer (some ⟨R, 0, none⟩), v, .int .i64 d] W fun r w' => MuchRes x.els d n R W r w')) :
  Calls Tryz.prog 99 #[.pointer (some ⟨R, 0, none⟩), v, .int .i64 d] w fun r w' => MuchRes l d n0 R w r w' := by
 have HSL := Hi_ h
 have HI := Hi_ IH
 obtain ⟨A, c, rfl, hcl, hm, -⟩ := h
 have hll : l.length ≤ 9223372036854775807 := by have := hm.1; simp only [maxLen] at this; omega
 have HC0 := Hi_ hc0
 have HB0 := Hi_ h0
 have HRR := Hi_ hR
 clear hcl hm IH hc0 h0 hR
 by_cases hl0 : 0 < l.length ∧ 5 < d
 ·have dl : decide ((0 : Int) < l.length) = true := decide_eq_true (by omega)
  have dd : decide (5 < d) = true := decide_eq_true hl0.2
  have HR : Hid (true = MB l d n0) := Hi_ (MB_deep hl0.1 hl0.2).symm
  have dl2 : decide (0 < l.length) = true := decide_eq_true hl0.1
  have dl3 : 0 < l.length := hl0.1
  clear hl0
  go_enter Tryz.func99, Tryz.ntmps99
  go_wp2
  go_ret
  exact much_done HR.out (World.grownBy.refl _ _) HC0.out
 have HRF : Hid (w.grownBy w (some R)) := Hi_ ((Bel.rfl_ w).grown _)
 rcases Nat.eq_zero_or_pos l.length with hl | hl
 ·obtain rfl := List.eq_nil_of_length_eq_zero hl
  have dl : decide ((0 : Int) < (([] : List TC).length : Int)) = false := rfl
  have HR : Hid (false = MB [] d n0) := Hi_ (MB_end (l := []) (k := 0) (Nat.le_refl 0) hn1).symm
  clear hl0 hl HI HSL
  go_enter Tryz.func99, Tryz.ntmps99
  go_wp2
  go_loopw [18] (fun i wr => i = .int .i64 0 ∧ Hid (w = wr)) (fun _ _ => 0)
  case atStart => exact ⟨rfl, Hi_ rfl⟩
  case round =>
   obtain ⟨rfl, HW⟩ := hrel
   obtain rfl := HW.out
   go_wp2
   go_ret
   exact ⟨by rw [← HR.out]; rfl, HRF.out, n0, HC0.out, fun _ => by rw [cntL]; omega⟩
 have hd5 : d ≤ 5 := by omega
 have HT : Hid (MB (l.drop 0) d n0 = MB l d n0) := Hi_ rfl
 have HCN : Hid (MB l d n0 = false → True) := Hi_ fun _ => trivial
 have dl : decide (0 < l.length) = true := decide_eq_true hl
 have dd : decide (5 < d) = false := decide_eq_false (by omega)
 have HSUM : Hid (n0 + cntL (l.drop 0) = n0 + cntL l) := Hi_ rfl
 clear hl0 HCN
 go_enter Tryz.func99, Tryz.ntmps99
 go_wp2
 clear dl dd
 generalize hTT : MB l d n0 = T at *
 generalize hSS : n0 + (cntL l : Int) = SM at *
 go_loopw [18] (fun i wr => ∃ (j : Nat) (n : Int), i = .int .i64 j ∧ j ≤ l.length ∧ 0 ≤ n ∧ n ≤ 40 ∧ Hid (MB (l.drop j) d n = T) ∧ Hid (n + cntL (l.drop j) = SM) ∧ Hid (w.grownBy wr (some R)) ∧ Hid (Blk wr R CT #[.int .i64 n])) (fun i _ => l.length - (intOf i).toNat)
 case atStart => exact ⟨0, n0, rfl, Nat.zero_le _, hn0, hn1, HT, HSUM, HRF, HC0⟩
 case round =>
  obtain ⟨j, n, rfl, hj, hn0', hn1', HS, HSM, HG, HC⟩ := hrel
  obtain ⟨WO, hWO⟩ : ∃ W, W = wr := ⟨_, rfl⟩
  subst hWO
  have HB := Hi_ (grownBel HB0.out HRR.out HG.out)
  clear HT HRF HSUM HC0
  by_cases hlt : j < l.length
  rotate_left
  ·have hdd : decide ((j : Int) < l.length) = false := decide_eq_false (by omega)
   have HR : Hid (false = T) := Hi_ (by rw [← HS.out, MB_end (by omega) hn1'])
   have HE : Hid (n = SM) := Hi_ (by rw [← HSM.out, cntL_end (by omega)]; omega)
   go_wp2
   go_ret
   exact ⟨by rw [hTT, ← HR.out]; rfl, HG.out, n, HC.out, fun _ => by rw [hSS]; exact HE.out⟩
  have hdd : decide ((j : Int) < l.length) = true := decide_eq_true (by omega)
  obtain ⟨x, hx⟩ : ∃ x, l[j]? = some x := ⟨_, List.getElem?_eq_getElem hlt⟩
  obtain ⟨b, o, cs, rfl, hcs, hca⟩ := tcAt HSL.out hx
  have HIX := Hi_ (HI.out x (List.mem_of_getElem? hx))
  have HBAD := Hi_ (fun (h : x.fine d = false) => (MB_bad hx (n := n) h).symm.trans HS.out)
  have HBIG := Hi_ (fun (h : 40 < n + 1) => (MB_big hx (d := d) h).symm.trans HS.out)
  have HTT := Hi_ (fun (h : MB x.thn (d + 1) (n + 1) = true) => (MB_thn hx h).symm.trans HS.out)
  have HEE := Hi_ (fun (h : MB x.els (d + 1) (n + 1 + cntL x.thn) = true) => (MB_els hx h).symm.trans HS.out)
  have HOKK := Hi_ (fun h1 h2 h3 h4 h5 h6 => (MB_go hx (d := d) (n := n) hd5 h1 h2 h3 h4 h5 h6).symm.trans HS.out)
  have HCX : Hid ((cntL (l.drop j) : Int) = 1 + cntL x.thn + cntL x.els + cntL (l.drop (j + 1))) := Hi_ (by rw [cntL_drop hx, TC.cnt_eq]; omega)
  have HBL : Hid (∀ W, WO.grownBy W (some R) → Bel w0 W) := Hi_ fun W hg => grownBel HB.out HRR.out hg
  have i0 : (0 : Int) ≤ j := by omega
  have i1 : (j : Int) < l.length := by omega
  have HCS := Hi_ hcs
  have HCA := Hi_ (hca.keep HB.out)
  have hRK := HC.out.lt
  clear hcs hca hx HS HI
  go_upto_region 6 with (refine copyTC (.tmp 20) (.tmp 8) (.tmp 21) rfl rfl rfl rfl rfl rfl b (o + j * 17) (by exact rfl) cs HCA.out (HCS.out.keep HB.out) (by exact rfl) (by exact rfl) ?_)
  have HX : Hid (WO.grownBy (WO.alloc (.cells cs.toArray 53)) (some R)) := Hi_ (((Bel.rfl_ WO).al (.cells cs.toArray 53)).grown _)
  have HK := Hi_ (Blk.new WO 53 cs.toArray)
  replace HC := Hi_ (HC.out.keep ((Bel.rfl_ WO).al (.cells cs.toArray 53)))
  obtain ⟨vi, ve, va, vt, vs, rfl, -, -, hin, hen, hsi, hse, hsa, hst, hsl⟩ := tcCells HCS.out
  clear HCS HCA
  generalize hW1 : WO.alloc _ = W1 at *
  clear hW1
  generalize WO.heap.size = K at *
  have HI1 : Hid (∀ W, Bel w0 W → Calls Tryz.prog 98 #[.agg #[.int .i64 x.index.kind, .int .i64 x.index.at_, .int .i64 x.index.n, .string x.index.name, vi]] W fun r w' => r = .returned (.bool x.index.great) ∧ Bel W w') := Hi_ fun W hb => great_any x.index _ W ⟨_, rfl, hin, hsi.keep hb⟩
  have HE1 : Hid (∀ W, Bel w0 W → Calls Tryz.prog 98 #[.agg #[.int .i64 x.expr.kind, .int .i64 x.expr.at_, .int .i64 x.expr.n, .string x.expr.name, ve]] W fun r w' => r = .returned (.bool x.expr.great) ∧ Bel W w') := Hi_ fun W hb => great_any x.expr _ W ⟨_, rfl, hen, hse.keep hb⟩
  have HA1 := Hi_ (fun W (hb : Bel w0 W) => contains_great TE.great x.args va W (hsa.keep hb) fun z _ cs W h => great_any z _ W (TER.tev h))
  have HT1 := Hi_ (fun (hz : ¬ 40 < n + 1) W (hb : Bel w0 W) (hc : Blk W R CT #[.int .i64 (n + 1)]) => HIX.out.1 (d + 1) (n + 1) vt W hst hb hc (by omega) (by omega) (by omega) (by omega))
  have HL1 := Hi_ (fun (hz : MB x.thn (d + 1) (n + 1) = false) W (hb : Bel w0 W) (hc : Blk W R CT #[.int .i64 (n + 1 + cntL x.thn)]) => HIX.out.2 (d + 1) (n + 1 + cntL x.thn) vs W hsl hb hc (by omega) (by omega) (by omega) (MB_le hz))
  obtain ⟨Ai, ci, rfl, -⟩ := hsi
  obtain ⟨Ae, ce, rfl, -⟩ := hse
  obtain ⟨Aa, ca, rfl, -⟩ := hsa
  obtain ⟨At, ct, rfl, -⟩ := hst
  obtain ⟨Al, cl, rfl, -⟩ := hsl
  have hwd : IntKind.i64.wrap (d + 1) = d + 1 := by rw [IntKind.wrap_i64]; omega
  clear hin hen HIX HB
  generalize x.expr.kind = ek at *
  generalize x.expr.at_ = ea at *
  generalize x.expr.n = en at *
  generalize x.expr.name = es at *
  generalize x.index.kind = ik at *
  generalize x.index.at_ = ia at *
  generalize x.index.n = iN at *
  generalize x.index.name = is_ at *
  have cR := HC.out.cell (i := 0) (v := .int .i64 n) rfl
  have fR := HC.out.frozen 0
  go_upto_region 7 with fail
  clear cR fR
  replace HX := Hi_ (HX.out.trans (grownS_one W1 R 0 (.int .i64 (n + 1))))
  replace HK := Hi_ (HK.out.grown (grownS_one W1 R 0 (.int .i64 (n + 1))) (by simp; omega))
  replace HC : Hid (Blk (W1.setCell ⟨R, 0, none⟩ (.int .i64 (n + 1))) R CT #[.int .i64 (n + 1)]) := Hi_ (HC.out.set_ 0 (.int .i64 (n + 1)))
  generalize W1.setCell ⟨R, 0, none⟩ (.int .i64 (n + 1)) = W2 at *
  refine wl_region ?_
  try dsimp only [List.append]
  refine wl_c 3 29 [.pointer (some ⟨R, 0, none⟩), .pointer (some ⟨R, 0, none⟩), .pointer (some ⟨R, 0, none⟩)] ?_
  refine wl_e (some 32) (.int .i64 (n + 1)) (rl_int_ (HC.out.cell (i := 0) (v := .int .i64 (n + 1)) rfl)) ?_
  by_cases hzN : 40 < (n + 1)
  ·have dzN : decide ((40 : Int) < (n + 1)) = true := decide_eq_true hzN
   have HR : Hid (true = T) := Hi_ (HBIG.out hzN)
   refine wl_e (some 33) (.bool true) (rb_gtrI rfl (by kernel_rfl) (by kernel_rfl) dzN) ?_
   refine wl_c 21 34 [.bool true, uD, uD, uD, .bool true, .bool true, uD, uD, uD, .bool true, .bool true, uD, uD, uD, uD, .bool true, .bool true, uD, uD, uD, .bool true] ?_
   refine wl_nil ?_
   try simp only [sP, Act.put, lA, lB, lC]
   go_wp2
   go_ret
   exact much_done (HR.out.trans hTT.symm) (HG.out.trans HX.out) HC.out
  have dzN : decide ((40 : Int) < (n + 1)) = false := decide_eq_false hzN
  refine wl_e (some 33) (.bool false) (rb_gtrI rfl (by kernel_rfl) (by kernel_rfl) dzN) ?_
  refine wl_c 2 34 [.bool false, .pointer (some ⟨K, 4, none⟩)] ?_
  refine wl_e (some 36) (.agg #[.int .i64 ik, .int .i64 ia, .int .i64 iN, .string is_, .slice Ai x.index.args.length ci]) (run_loadRow 49 (.tmp 35) rfl elTE K 4 (by kernel_rfl) [.int .i64 ik, .int .i64 ia, .int .i64 iN, .string is_, .slice Ai x.index.args.length ci] (blkRange HK.out 4 rfl) rfl (by kernel_rfl)) ?_
  refine wl_cl (some 37) 98 #[.agg #[.int .i64 ik, .int .i64 ia, .int .i64 iN, .string is_, .slice Ai x.index.args.length ci]] (HI1.out _ (HBL.out _ HX.out)) ?_
  rintro r W3 ⟨rfl, hb⟩
  replace HX := Hi_ (HX.out.trans (hb.grown _))
  replace HK := Hi_ (HK.out.keep hb)
  replace HC := Hi_ (HC.out.keep hb)
  clear hb
  refine ⟨_, rfl, ?_⟩
  cases heI : x.index.great with
  | true =>
   have HR : Hid (true = T) := Hi_ (HBAD.out (fine_no2 heI))
   refine wl_c 17 38 [.bool true, .bool true, uD, uD, uD, .bool true, .bool true, uD, uD, uD, uD, .bool true, .bool true, uD, uD, uD, .bool true] ?_
   refine wl_nil ?_
   try simp only [sP, Act.put, lA, lB, lC]
   go_wp2
   go_ret
   exact much_done (HR.out.trans hTT.symm) (HG.out.trans HX.out) HC.out
  | false =>
   refine wl_c 3 38 [.bool false, .bool false, .pointer (some ⟨K, 9, none⟩)] ?_
   refine wl_e (some 41) (.agg #[.int .i64 ek, .int .i64 ea, .int .i64 en, .string es, .slice Ae x.expr.args.length ce]) (run_loadRow 49 (.tmp 40) rfl elTE K 9 (by kernel_rfl) [.int .i64 ek, .int .i64 ea, .int .i64 en, .string es, .slice Ae x.expr.args.length ce] (blkRange HK.out 9 rfl) rfl (by kernel_rfl)) ?_
   refine wl_cl (some 42) 98 #[.agg #[.int .i64 ek, .int .i64 ea, .int .i64 en, .string es, .slice Ae x.expr.args.length ce]] (HE1.out _ (HBL.out _ HX.out)) ?_
   rintro r W3 ⟨rfl, hb⟩
   replace HX := Hi_ (HX.out.trans (hb.grown _))
   replace HK := Hi_ (HK.out.keep hb)
   replace HC := Hi_ (HC.out.keep hb)
   clear hb
   refine ⟨_, rfl, ?_⟩
   cases heE : x.expr.great with
   | true =>
    have HR : Hid (true = T) := Hi_ (HBAD.out (fine_no1 heE))
    refine wl_c 12 43 [.bool true, .bool true, uD, uD, uD, uD, .bool true, .bool true, uD, uD, uD, .bool true] ?_
    refine wl_nil ?_
    try simp only [sP, Act.put, lA, lB, lC]
    go_wp2
    go_ret
    exact much_done (HR.out.trans hTT.symm) (HG.out.trans HX.out) HC.out
   | false =>
    refine wl_c 3 43 [.bool false, .bool false, .pointer (some ⟨K, 14, none⟩)] ?_
    refine wl_e (some 46) (.slice Aa x.args.length ca) (rl_es_ (HK.out.cell (i := 14) (v := .slice Aa x.args.length ca) rfl)) ?_
    refine wl_k (some 47) (.int .i64 x.args.length) ?_
    by_cases hzA : 3 < x.args.length
    ·have dzA : decide ((3 : Int) < x.args.length) = true := decide_eq_true (by omega)
     have HR : Hid (true = T) := Hi_ (HBAD.out (fine_no3 (by omega)))
     refine wl_e (some 48) (.bool true) (rb_gtrI rfl (by kernel_rfl) (by kernel_rfl) dzA) ?_
     refine wl_c 6 49 [.bool true, .bool true, uD, uD, uD, .bool true] ?_
     refine wl_nil ?_
     try simp only [sP, Act.put, lA, lB, lC]
     go_wp2
     go_ret
     exact much_done (HR.out.trans hTT.symm) (HG.out.trans HX.out) HC.out
    have dzA : decide ((3 : Int) < x.args.length) = false := decide_eq_false (by omega)
    refine wl_e (some 48) (.bool false) (rb_gtrI rfl (by kernel_rfl) (by kernel_rfl) dzA) ?_
    refine wl_c 3 49 [.bool false, .bool false, .pointer (some ⟨K, 14, none⟩)] ?_
    refine wl_e (some 52) (.slice Aa x.args.length ca) (rl_es_ (HK.out.cell (i := 14) (v := .slice Aa x.args.length ca) rfl)) ?_
    refine wl_cl (some 53) 149 #[.slice Aa x.args.length ca, .func (.func 98) #[] #[]] (HA1.out _ (HBL.out _ HX.out)) ?_
    rintro r W3 ⟨rfl, hb⟩
    replace HX := Hi_ (HX.out.trans (hb.grown _))
    replace HK := Hi_ (HK.out.keep hb)
    replace HC := Hi_ (HC.out.keep hb)
    clear hb
    refine ⟨_, rfl, ?_⟩
    cases heA : x.args.any TE.great with
    | true =>
     have HR : Hid (true = T) := Hi_ (HBAD.out (fine_no4 heA))
     refine wl_k (some 54) (.bool true) ?_
     refine wl_nil ?_
     try simp only [sP, Act.put, lA, lB, lC]
     go_wp2
     go_ret
     exact much_done (HR.out.trans hTT.symm) (HG.out.trans HX.out) HC.out
    | false =>
     refine wl_k (some 54) (.bool false) ?_
     refine wl_nil ?_
     try simp only [sP, Act.put, lA, lB, lC]
     go_upto_region 9 with fail
     refine wl_region ?_
     try dsimp only [List.append]
     refine wl_c 2 55 [.pointer (some ⟨R, 0, none⟩), .pointer (some ⟨K, 15, none⟩)] ?_
     refine wl_e (some 57) (.slice At x.thn.length ct) (rl_cs_ (HK.out.cell (i := 15) (v := .slice At x.thn.length ct) rfl)) ?_
     refine wl_k (some 58) (.int .i64 d) ?_
     refine wl_e (some 59) (.int .i64 (d + 1)) (Eq.trans (b := .ok (.value (.int .i64 (IntKind.i64.wrap (d + 1)))) _) (by kernel_rfl) (by rw [hwd])) ?_
     refine wl_cl (some 60) 99 #[.pointer (some ⟨R, 0, none⟩), .slice At x.thn.length ct, .int .i64 (d + 1)] (HT1.out hzN _ (HBL.out _ HX.out) HC.out) ?_
     rintro r W3 ⟨rfl, hg, m, hm1, hm2⟩
     replace HX := Hi_ (HX.out.trans hg)
     replace HK := Hi_ (HK.out.grown hg (by simp; omega))
     replace HC := Hi_ hm1
     clear hg hm1
     refine ⟨_, rfl, ?_⟩
     cases hM : MB x.thn (d + 1) (n + 1) with
     | true =>
      have HR : Hid (true = T) := Hi_ (HTT.out hM)
      refine wl_c 8 61 [.bool true, uD, uD, uD, uD, uD, uD, .bool true] ?_
      refine wl_nil ?_
      try simp only [sP, Act.put, lA, lB, lC]
      go_wp2
      go_ret
      exact much_done (HR.out.trans hTT.symm) (HG.out.trans HX.out) HC.out
     | false =>
      obtain rfl := hm2 hM
      have ht := hM
      clear hM
      refine wl_c 3 61 [.bool false, .pointer (some ⟨R, 0, none⟩), .pointer (some ⟨K, 16, none⟩)] ?_
      refine wl_e (some 64) (.slice Al x.els.length cl) (rl_cs_ (HK.out.cell (i := 16) (v := .slice Al x.els.length cl) rfl)) ?_
      refine wl_k (some 65) (.int .i64 d) ?_
      refine wl_e (some 66) (.int .i64 (d + 1)) (Eq.trans (b := .ok (.value (.int .i64 (IntKind.i64.wrap (d + 1)))) _) (by kernel_rfl) (by rw [hwd])) ?_
      refine wl_cl (some 67) 99 #[.pointer (some ⟨R, 0, none⟩), .slice Al x.els.length cl, .int .i64 (d + 1)] (HL1.out ht _ (HBL.out _ HX.out) HC.out) ?_
      rintro r W3 ⟨rfl, hg, m, hm1, hm2⟩
      replace HX := Hi_ (HX.out.trans hg)
      replace HK := Hi_ (HK.out.grown hg (by simp; omega))
      replace HC := Hi_ hm1
      clear hg hm1
      refine ⟨_, rfl, ?_⟩
      cases hM : MB x.els (d + 1) (n + 1 + cntL x.thn) with
      | true =>
       have HR : Hid (true = T) := Hi_ (HEE.out hM)
       refine wl_k (some 68) (.bool true) ?_
       refine wl_nil ?_
       try simp only [sP, Act.put, lA, lB, lC]
       go_wp2
       go_ret
       exact much_done (HR.out.trans hTT.symm) (HG.out.trans HX.out) HC.out
      | false =>
       obtain rfl := hm2 hM
       have he := hM
       clear hM
       refine wl_k (some 68) (.bool false) ?_
       refine wl_nil ?_
       try simp only [sP, Act.put, lA, lB, lC]
       have HN2 : Hid (MB (l.drop (j + 1)) d (n + 1 + cntL x.thn + cntL x.els) = T) := Hi_ (HOKK.out heI heE hzA heA ht he)
       have hn40 := MB_le he
       have HSM2 : Hid (n + 1 + cntL x.thn + cntL x.els + cntL (l.drop (j + 1)) = SM) := Hi_ (by rw [← HSM.out, HCX.out]; omega)
       go_wp2
       go_roundw
       case rel => exact ⟨j + 1, _, by go_num, by omega, by omega, hn40, HN2, HSM2, Hi_ (HG.out.trans HX.out), HC⟩
       case measure => simp [intOf]; omega
theorem much_all (w0 : World) (R : Nat) (hR : w0.heap.size ≤ R) : ∀ x : TC, (∀ (d n : Int) (v : Value) (W : World), Sl tcR w0 v x.thn → Bel w0 W → Blk W R CT #[.int .i64 n] → 1 ≤ d → d ≤ 6 → 0 ≤ n → n ≤ 40 → Calls Tryz.prog 99 #[.pointer (some ⟨R, 0, none⟩), v, .int .i64 d] W fun r w' => MuchRes x.thn d n R W r w') ∧
   (∀ (d n : Int) (v : Value) (W : World), Sl tcR w0 v x.els → Bel w0 W → Blk W R CT #[.int .i64 n] → 1 ≤ d → d ≤ 6 → 0 ≤ n → n ≤ 40 → Calls Tryz.prog 99 #[.pointer (some ⟨R, 0, none⟩), v, .int .i64 d] W fun r w' => MuchRes x.els d n R W r w') := by
 intro x
 induction x using TC.ind with
 | h k a s t i e args thn els ih1 ih2 => exact ⟨fun d n v W h hb hc h1 h6 h0 h4 => much_step w0 R hR thn d n v W h hb hc h1 h6 h0 h4 ih1, fun d n v W h hb hc h1 h6 h0 h4 => much_step w0 R hR els d n v W h hb hc h1 h6 h0 h4 ih2⟩
theorem much_any (w0 : World) (R : Nat) (hR : w0.heap.size ≤ R) (l : List TC) (d n : Int) (v : Value) (W : World) (h : Sl tcR w0 v l) (hb : Bel w0 W) (hc : Blk W R CT #[.int .i64 n]) (h1 : 1 ≤ d) (h6 : d ≤ 6) (h0 : 0 ≤ n) (h4 : n ≤ 40) :
  Calls Tryz.prog 99 #[.pointer (some ⟨R, 0, none⟩), v, .int .i64 d] W fun r w' => MuchRes l d n R W r w' :=
 much_step w0 R hR l d n v W h hb hc h1 h6 h0 h4 fun x _ => much_all w0 R hR x
end Go.Proofs.YtmfjlcpjemccmaaGreatDoor
