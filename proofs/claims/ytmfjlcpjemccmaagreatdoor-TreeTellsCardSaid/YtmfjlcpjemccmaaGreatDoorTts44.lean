/- Is there too much in a tree, by the program; Check: walked. Each lemma states its own conditions. -/
import Derived.Test.YtmfjlcpjemccmaaGreatDoorTts43
namespace Go.Proofs.YtmfjlcpjemccmaaGreatDoor
open Go.RowKit
abbrev PT : TypeId := 144
theorem rl_ctr {o : Oper} {ρ : Operand → Value} {W : World} {x : Operand} {b f : Nat} {v : Value} (ho : o.op = .load 144 x) (hx : ρ x = .pointer (some ⟨b, f, none⟩)) (hc : W.cell? ⟨b, f, none⟩ = some v) : (execOp ρ o).run Tryz.prog W = .ok (.value v) W := by
 simp [execOp, ho, hx, hc, go_sem]
def LimRes (x : TF) (n : Int) (R : Nat) (w : World) (r : Ending) (w' : World) : Prop :=
 r = .returned (.bool (x.big || MB x.cmds 1 n)) ∧ w.grownBy w' (some R) ∧ ∃ m : Int, Blk w' R CT #[.int .i64 m] ∧ ((x.big || MB x.cmds 1 n) = false → m = n + cntL x.cmds)
theorem lim_done {x : TF} {n m : Int} {R : Nat} {w w' : World} (h : true = (x.big || MB x.cmds 1 n)) (hg : w.grownBy w' (some R)) (hc : Blk w' R CT #[.int .i64 m]) : LimRes x n R w (.returned (.bool true)) w' :=
 ⟨by rw [← h], hg, m, hc, fun e => by rw [← h] at e; cases e⟩
set_option maxRecDepth 20000 in
set_option maxHeartbeats 4000000 in
theorem limF_any (w0 : World) (R PV : Nat) (hR : w0.heap.size ≤ R) (_hPV : PV ≠ R) (x : TF) (cs : List Value) (n : Int) (w : World) (h : TFR w0 x cs) (hb : Bel w0 w) (hc : Blk w R CT #[.int .i64 n]) (hp : Blk w PV PT #[.pointer (some ⟨R, 0, none⟩)]) (hn0 : 0 ≤ n) (hn1 : n ≤ 40) :
  Calls Tryz.prog 97 #[.agg cs.toArray, .pointer (some ⟨PV, 0, none⟩)] w fun r w' => LimRes x n R w r w' := by
 obtain ⟨vp, vv, vc, vr, rfl, hn, hrn, hsp, hsv, hsc, hsr⟩ := h
 have HR1 : Hid (∀ W, Bel w0 W → Calls Tryz.prog 98 #[.agg #[.int .i64 x.result.kind, .int .i64 x.result.at_, .int .i64 x.result.n, .string x.result.name, vr]] W fun r w' => r = .returned (.bool x.result.great) ∧ Bel W w') := Hi_ fun W hb => great_any x.result _ W ⟨_, rfl, hrn, hsr.keep hb⟩
 have HM1 := Hi_ (fun W (hb : Bel w0 W) (hc : Blk W R CT #[.int .i64 n]) => much_any w0 R hR x.cmds 1 n vc W hsc hb hc (by decide) (by decide) hn0 hn1)
 have HBL : Hid (∀ W, w.grownBy W (some R) → Bel w0 W) := Hi_ fun W hg => grownBel hb hR hg
 have HTE : Hid ((x.big || MB x.cmds 1 n) = (decide (3 < x.params.length) || (decide (6 < x.vars.length) || (x.result.great || MB x.cmds 1 n)))) := Hi_ (by unfold TF.big; simp only [Bool.or_assoc])
 obtain ⟨Ap, cp, rfl, hp1, hp2, -⟩ := hsp
 obtain ⟨Av, cv, rfl, hv1, hv2, -⟩ := hsv
 obtain ⟨Ac, cc, rfl, -⟩ := hsc
 obtain ⟨Ar, cr, rfl, -⟩ := hsr
 have hpl : x.params.length ≤ 9223372036854775807 := by have := hp2.1; simp only [maxLen] at this; omega
 have hvl : x.vars.length ≤ 9223372036854775807 := by have := hv2.1; simp only [maxLen] at this; omega
 clear hn hrn hp1 hp2 hv1 hv2
 generalize x.result.kind = rk at *
 generalize x.result.at_ = ra at *
 generalize x.result.n = rn at *
 generalize x.result.name = rs at *
 generalize x.at_ = xa at *
 generalize x.name = xn at *
 have HX : Hid (w.grownBy (w.alloc (.cells #[.int .i64 xa, .string xn, .slice Ap x.params.length cp, .slice Av x.vars.length cv, .slice Ac x.cmds.length cc, .int .i64 rk, .int .i64 ra, .int .i64 rn, .string rs, .slice Ar x.result.args.length cr] 51)) (some R)) := Hi_ (((Bel.rfl_ w).al (.cells #[.int .i64 xa, .string xn, .slice Ap x.params.length cp, .slice Av x.vars.length cv, .slice Ac x.cmds.length cc, .int .i64 rk, .int .i64 ra, .int .i64 rn, .string rs, .slice Ar x.result.args.length cr] 51)).grown _)
 have HK := Hi_ (Blk.new w 51 #[.int .i64 xa, .string xn, .slice Ap x.params.length cp, .slice Av x.vars.length cv, .slice Ac x.cmds.length cc, .int .i64 rk, .int .i64 ra, .int .i64 rn, .string rs, .slice Ar x.result.args.length cr])
 have HC := Hi_ (hc.keep ((Bel.rfl_ w).al (.cells #[.int .i64 xa, .string xn, .slice Ap x.params.length cp, .slice Av x.vars.length cv, .slice Ac x.cmds.length cc, .int .i64 rk, .int .i64 ra, .int .i64 rn, .string rs, .slice Ar x.result.args.length cr] 51)))
 have HP := Hi_ (hp.keep ((Bel.rfl_ w).al (.cells #[.int .i64 xa, .string xn, .slice Ap x.params.length cp, .slice Av x.vars.length cv, .slice Ac x.cmds.length cc, .int .i64 rk, .int .i64 ra, .int .i64 rn, .string rs, .slice Ar x.result.args.length cr] 51)))
 clear hc hp hb
 go_enter Tryz.func97, Tryz.ntmps97
 go_upto_region 1 with fail
 generalize w.alloc (.cells #[.int .i64 xa, .string xn, .slice Ap x.params.length cp, .slice Av x.vars.length cv, .slice Ac x.cmds.length cc, .int .i64 rk, .int .i64 ra, .int .i64 rn, .string rs, .slice Ar x.result.args.length cr] 51) = W0 at *
 generalize w.heap.size = K at *
 refine wl_region ?_
 try dsimp only [List.append]
 refine wl_k (some 4) (.pointer (some ⟨K, 2, none⟩)) ?_
 refine wl_e (some 5) (.slice Ap x.params.length cp) (rl_ss_ (HK.out.cell (i := 2) (v := .slice Ap x.params.length cp) rfl)) ?_
 refine wl_k (some 6) (.int .i64 x.params.length) ?_
 by_cases hzP : 3 < x.params.length
 ·have dzP : decide ((3 : Int) < x.params.length) = true := decide_eq_true (by omega)
  have HR : true = (x.big || MB x.cmds 1 n) := by rw [HTE.out, decide_eq_true hzP]; simp
  replace HR := Hi_ HR
  refine wl_e (some 7) (.bool true) (rb_gtrI rfl (by kernel_rfl) (by kernel_rfl) dzP) ?_
  refine wl_c 17 8 [.bool true, uD, uD, uD, uD, .bool true, .bool true, uD, uD, uD, .bool true, .bool true, uD, uD, uD, uD, .bool true] ?_
  refine wl_k (some 3) (.bool true) ?_
  refine wl_nil ?_
  try simp only [sP, Act.put, lA, lB, lC]
  go_wp2
  go_ret
  exact lim_done HR.out HX.out HC.out
 have dzP : decide ((3 : Int) < x.params.length) = false := decide_eq_false (by omega)
 refine wl_e (some 7) (.bool false) (rb_gtrI rfl (by kernel_rfl) (by kernel_rfl) dzP) ?_
 refine wl_c 2 8 [.bool false, .pointer (some ⟨K, 3, none⟩)] ?_
 refine wl_e (some 10) (.slice Av x.vars.length cv) (rl_vs_ (HK.out.cell (i := 3) (v := .slice Av x.vars.length cv) rfl)) ?_
 refine wl_k (some 11) (.int .i64 x.vars.length) ?_
 by_cases hzV : 6 < x.vars.length
 ·have dzV : decide ((6 : Int) < x.vars.length) = true := decide_eq_true (by omega)
  have HR : true = (x.big || MB x.cmds 1 n) := by rw [HTE.out, decide_eq_true hzV]; simp
  replace HR := Hi_ HR
  refine wl_e (some 12) (.bool true) (rb_gtrI rfl (by kernel_rfl) (by kernel_rfl) dzV) ?_
  refine wl_c 12 13 [.bool true, .bool true, uD, uD, uD, .bool true, .bool true, uD, uD, uD, uD, .bool true] ?_
  refine wl_k (some 3) (.bool true) ?_
  refine wl_nil ?_
  try simp only [sP, Act.put, lA, lB, lC]
  go_wp2
  go_ret
  exact lim_done HR.out HX.out HC.out
 have dzV : decide ((6 : Int) < x.vars.length) = false := decide_eq_false (by omega)
 refine wl_e (some 12) (.bool false) (rb_gtrI rfl (by kernel_rfl) (by kernel_rfl) dzV) ?_
 refine wl_c 3 13 [.bool false, .bool false, .pointer (some ⟨K, 5, none⟩)] ?_
 refine wl_e (some 16) (.agg #[.int .i64 rk, .int .i64 ra, .int .i64 rn, .string rs, .slice Ar x.result.args.length cr]) (run_loadRow 49 (.tmp 15) rfl elTE K 5 (by kernel_rfl) [.int .i64 rk, .int .i64 ra, .int .i64 rn, .string rs, .slice Ar x.result.args.length cr] (blkRange HK.out 5 rfl) rfl (by kernel_rfl)) ?_
 refine wl_cl (some 17) 98 #[.agg #[.int .i64 rk, .int .i64 ra, .int .i64 rn, .string rs, .slice Ar x.result.args.length cr]] (HR1.out _ (HBL.out _ HX.out)) ?_
 rintro r W3 ⟨rfl, hb⟩
 replace HX := Hi_ (HX.out.trans (hb.grown _))
 replace HK := Hi_ (HK.out.keep hb)
 replace HC := Hi_ (HC.out.keep hb)
 replace HP := Hi_ (HP.out.keep hb)
 clear hb
 refine ⟨_, rfl, ?_⟩
 cases hgr : x.result.great with
 | true =>
  have HR : Hid (true = (x.big || MB x.cmds 1 n)) := Hi_ (by rw [HTE.out, hgr]; simp)
  refine wl_c 7 18 [.bool true, .bool true, uD, uD, uD, uD, .bool true] ?_
  refine wl_k (some 3) (.bool true) ?_
  refine wl_nil ?_
  try simp only [sP, Act.put, lA, lB, lC]
  go_wp2
  go_ret
  exact lim_done HR.out HX.out HC.out
 | false =>
  refine wl_c 2 18 [.bool false, .bool false] ?_
  refine wl_e (some 20) (.pointer (some ⟨R, 0, none⟩)) (rl_ctr rfl (by kernel_rfl) (HP.out.cell (i := 0) (v := .pointer (some ⟨R, 0, none⟩)) rfl)) ?_
  refine wl_k (some 21) (.pointer (some ⟨K, 4, none⟩)) ?_
  refine wl_e (some 22) (.slice Ac x.cmds.length cc) (rl_cs_ (HK.out.cell (i := 4) (v := .slice Ac x.cmds.length cc) rfl)) ?_
  refine wl_cl (some 23) 99 #[.pointer (some ⟨R, 0, none⟩), .slice Ac x.cmds.length cc, .int .i64 1] (HM1.out _ (HBL.out _ HX.out) HC.out) ?_
  rintro r W3 ⟨rfl, hg, m, hm1, hm2⟩
  replace HX := Hi_ (HX.out.trans hg)
  replace HC := Hi_ hm1
  clear hg hm1
  refine ⟨_, rfl, ?_⟩
  cases hM : MB x.cmds 1 n with
  | true =>
   have HR : Hid (true = (x.big || MB x.cmds 1 n)) := Hi_ (by rw [HTE.out, hM]; simp)
   refine wl_k (some 24) (.bool true) ?_
   refine wl_k (some 3) (.bool true) ?_
   refine wl_nil ?_
   try simp only [sP, Act.put, lA, lB, lC]
   go_wp2
   go_ret
   exact lim_done HR.out HX.out HC.out
  | false =>
   have HM : Hid (m = n + cntL x.cmds) := Hi_ (hm2 hM)
   have hTT : (x.big || MB x.cmds 1 n) = false := by rw [HTE.out, decide_eq_false hzP, decide_eq_false hzV, hgr, hM]; rfl
   clear hM hm2
   refine wl_k (some 24) (.bool false) ?_
   refine wl_k (some 3) (.bool false) ?_
   refine wl_nil ?_
   try simp only [sP, Act.put, lA, lB, lC]
   go_wp2
   go_ret
   exact ⟨by rw [hTT]; rfl, HX.out, m, HC.out, fun _ => HM.out⟩
/-- functions with too much, so many commands counted -/
def FB : List TF → Int → Bool
 | [], _ => false
 | f :: l, n => (f.big || MB f.cmds 1 n) || FB l (n + cntL f.cmds)
theorem FB_drop {l : List TF} {k : Nat} {x : TF} (hx : l[k]? = some x) (n : Int) : FB (l.drop k) n = ((x.big || MB x.cmds 1 n) || FB (l.drop (k + 1)) (n + cntL x.cmds)) := by
 obtain ⟨hl, rfl⟩ := List.getElem?_eq_some_iff.1 hx
 rw [List.drop_eq_getElem_cons hl, FB]
theorem FB_end {l : List TF} {k : Nat} (h : l.length ≤ k) (n : Int) : FB (l.drop k) n = false := by rw [List.drop_eq_nil_of_le h, FB]
theorem FB_eq : ∀ (l : List TF) (n : Nat), n ≤ 40 → FB l n = (l.any TF.big || !l.all (fun f => fineL f.cmds 1) || decide (40 < n + (l.map fun f => cntL f.cmds).sum))
 | [], n, h => by
  rw [FB]
  simp
  omega
 | f :: l, n, h => by
  rw [FB, List.any_cons, List.all_cons, List.map_cons, List.sum_cons]
  cases hb : f.big with
  | true => simp
  | false =>
   cases hf : fineL f.cmds 1 with
   | false =>
    unfold MB
    rw [hf]
    simp
   | true =>
    unfold MB
    rw [hf, Bool.true_and]
    by_cases h40 : n + cntL f.cmds ≤ 40
    ·have ih := FB_eq l (n + cntL f.cmds) h40
     rw [decide_eq_true (show (n : Int) + cntL f.cmds ≤ 40 by omega), show (n : Int) + cntL f.cmds = ((n + cntL f.cmds : Nat) : Int) by omega, ih, Nat.add_assoc]
     simp
    ·rw [decide_eq_false (show ¬ (n : Int) + cntL f.cmds ≤ 40 by omega), show decide (40 < n + (cntL f.cmds + (l.map fun f => cntL f.cmds).sum)) = true from decide_eq_true (by omega)]
     simp
set_option maxRecDepth 20000 in
set_option maxHeartbeats 4000000 in
theorem indexF_any (w0 : World) (R PV : Nat) (hR : w0.heap.size ≤ R) (hPV : PV ≠ R) (l : List TF) (v : Value) (w : World) (h : Sl tfR w0 v l) (hb : Bel w0 w) (hc : Blk w R CT #[.int .i64 0]) (hp : Blk w PV PT #[.pointer (some ⟨R, 0, none⟩)]) :
  Calls Tryz.prog 147 #[v, .func (.func 97) #[] #[.pointer (some ⟨PV, 0, none⟩)]] w fun r w' => ∃ k : Int, r = .returned (.int .i64 k) ∧ decide (0 ≤ k) = FB l 0 ∧ w.grownBy w' (some R) := by
 have HSL := Hi_ h
 have HL := Hi_ (fun x cs n W h hb hc hp h0 h1 => limF_any w0 R PV hR hPV x cs n W h hb hc hp h0 h1)
 have HT : Hid (FB (l.drop 0) 0 = FB l 0) := Hi_ rfl
 generalize FB l 0 = T at *
 obtain ⟨A, c, rfl, hcl, hm, -⟩ := h
 have hll : l.length ≤ 9223372036854775807 := by have := hm.1; simp only [maxLen] at this; omega
 have HRF : Hid (w.grownBy w (some R)) := Hi_ ((Bel.rfl_ w).grown _)
 have HB0 := Hi_ hb
 have HC0 := Hi_ hc
 have HP0 := Hi_ hp
 have HRR := Hi_ hR
 clear hcl hm hb hc hp hR
 go_enter Tryz.func147, Tryz.ntmps147
 go_wp2
 go_loopw [8] (fun i wr => ∃ (j : Nat) (n : Int), i = .int .i64 j ∧ j ≤ l.length ∧ 0 ≤ n ∧ n ≤ 40 ∧ Hid (FB (l.drop j) n = T) ∧ Hid (w.grownBy wr (some R)) ∧ Hid (Blk wr R CT #[.int .i64 n]) ∧ Hid (Blk wr PV PT #[.pointer (some ⟨R, 0, none⟩)])) (fun i _ => l.length - (intOf i).toNat)
 case atStart => exact ⟨0, 0, rfl, Nat.zero_le _, by decide, by decide, HT, HRF, HC0, HP0⟩
 case round =>
  obtain ⟨j, n, rfl, hj, hn0, hn1, HS, HG, HC, HP⟩ := hrel
  obtain ⟨WO, hWO⟩ : ∃ W, W = wr := ⟨_, rfl⟩
  subst hWO
  have HB := Hi_ (grownBel HB0.out HRR.out HG.out)
  clear HT HRF HC0 HP0
  by_cases hlt : j < l.length
  rotate_left
  ·have hdd : decide ((j : Int) < l.length) = false := decide_eq_false (by omega)
   have HR : Hid (false = T) := Hi_ (by rw [← HS.out, FB_end (by omega)])
   go_wp2
   go_ret
   exact ⟨-1, rfl, by rw [← HR.out]; rfl, HG.out⟩
  have hdd : decide ((j : Int) < l.length) = true := decide_eq_true (by omega)
  obtain ⟨x, hx⟩ : ∃ x, l[j]? = some x := ⟨_, List.getElem?_eq_getElem hlt⟩
  obtain ⟨b, o, cs, rfl, hcs, hca⟩ := tfAt HSL.out hx
  have HIX := Hi_ (HL.out x cs n WO hcs HB.out HC.out HP.out hn0 hn1)
  have HD : Hid (((x.big || MB x.cmds 1 n) || FB (l.drop (j + 1)) (n + cntL x.cmds)) = T) := Hi_ (by rw [← FB_drop hx]; exact HS.out)
  have HMB := Hi_ (fun (h : (x.big || MB x.cmds 1 n) = false) => MB_le (l := x.cmds) (d := 1) (n := n) (by rw [Bool.or_eq_false_iff] at h; exact h.2))
  have i0 : (0 : Int) ≤ j := by omega
  have i1 : (j : Int) < l.length := by omega
  have HLE := Hi_ (tfR.len hcs)
  have HCA := Hi_ (hca.keep HB.out)
  clear hcs hca hx HS HL
  go_upto_region 4 with fail
  refine wl_region ?_
  try dsimp only [List.append]
  refine wl_k (some 11) (.func (.func 97) #[] #[.pointer (some ⟨PV, 0, none⟩)]) ?_
  refine wl_k (some 12) (.slice (some ⟨b, o, none⟩) l.length c) ?_
  refine wl_k (some 13) (.int .i64 j) ?_
  refine wl_e (some 14) (.pointer (some ⟨b, o + j * 10, none⟩)) (by go_simp) ?_
  refine wl_e (some 15) (.agg cs.toArray) (run_loadRow 51 (.tmp 14) rfl elTF b (o + j * 10) (by kernel_rfl) cs HCA.out HLE.out (by kernel_rfl)) ?_
  refine wl_cl (some 16) 97 #[.agg cs.toArray, .pointer (some ⟨PV, 0, none⟩)] HIX.out ?_
  rintro r W3 ⟨rfl, hg, m, hm1, hm2⟩
  have HG2 := Hi_ (HG.out.trans hg)
  have HP2 := Hi_ (HP.out.grown hg (by simp; omega))
  have HC2 := Hi_ hm1
  clear hg hm1 HIX HG HP HC
  refine ⟨_, rfl, ?_⟩
  generalize hsm : (x.big || MB x.cmds 1 n) = sm at *
  refine wl_nil ?_
  try simp only [Act.put, lA, lB, lC]
  cases sm with
  | false =>
   obtain rfl := hm2 rfl
   have hle := HMB.out rfl
   have HD2 : Hid (FB (l.drop (j + 1)) (n + cntL x.cmds) = T) := Hi_ (by rw [← HD.out, Bool.false_or])
   clear hm2 HMB hsm
   go_wp2
   go_roundw
   case rel => exact ⟨j + 1, _, by go_num, by omega, by omega, hle, HD2, HG2, HC2, HP2⟩
   case measure => simp [intOf]; omega
  | true =>
   have HD2 : Hid (true = T) := Hi_ (by rw [← HD.out, Bool.true_or])
   clear hm2 HMB hsm
   go_wp2
   go_ret
   exact ⟨j, rfl, by rw [← HD2.out]; exact decide_eq_true i0, HG2.out⟩
set_option maxRecDepth 20000 in
theorem containsF_any (w0 : World) (R PV : Nat) (hR : w0.heap.size ≤ R) (hPV : PV ≠ R) (l : List TF) (v : Value) (w : World) (h : Sl tfR w0 v l) (hb : Bel w0 w) (hc : Blk w R CT #[.int .i64 0]) (hp : Blk w PV PT #[.pointer (some ⟨R, 0, none⟩)]) :
  Calls Tryz.prog 96 #[v, .func (.func 97) #[] #[.pointer (some ⟨PV, 0, none⟩)]] w fun r w' => r = .returned (.bool (FB l 0)) ∧ w.grownBy w' (some R) := by
 have HC := Hi_ (indexF_any w0 R PV hR hPV l v w h hb hc hp)
 obtain ⟨A, c, rfl, -⟩ := h
 generalize FB l 0 = T at *
 clear hb hc hp
 go_enter Tryz.func96, Tryz.ntmps96
 go_wp2_with fail
 refine HC.out.mono ?_
 rintro r w1 ⟨k, rfl, hk, hg⟩
 have hk2 : decide (0 ≤ k) = T := hk
 have HG := Hi_ hg
 clear hg HC hk
 cases T with
 | true =>
  go_wp2
  go_ret
  exact ⟨rfl, HG.out⟩
 | false =>
  go_wp2
  go_ret
  exact ⟨rfl, HG.out⟩
theorem okFs_step : ∀ {l : List TF} {k : Nat} {x : TF} (_ : l[k]? = some x), okFs (l.drop k) = (x.ok (decide (k + 1 = l.length)) && okFs (l.drop (k + 1)))
 | l, k, x, hx => by
  obtain ⟨hl, rfl⟩ := List.getElem?_eq_some_iff.1 hx
  rw [List.drop_eq_getElem_cons hl]
  by_cases h : k + 1 = l.length
  ·rw [List.drop_eq_nil_of_le (by omega), decide_eq_true h, okFs, okFs, Bool.and_true]
  ·rw [decide_eq_false h, List.drop_eq_getElem_cons (show k + 1 < l.length by omega), okFs]
set_option maxRecDepth 20000 in
theorem limits_any (l : List TF) (v : Value) (w : World) (h : Sl tfR w v l) : Calls Tryz.prog 59 #[.agg #[v]] w fun r w' => r = .returned (.bool (many l)) ∧ Bel w w' := by
 have HCF := Hi_ (fun R PV (hR : w.heap.size ≤ R) (hPV : PV ≠ R) W hb hc hp => containsF_any w R PV hR hPV l v W h hb hc hp)
 obtain ⟨A, c, rfl, hcl, hm, -⟩ := h
 have hll : l.length ≤ 9223372036854775807 := by have := hm.1; simp only [maxLen] at this; omega
 clear hcl hm
 by_cases h6 : 6 < l.length
 ·have d6 : decide ((6 : Int) < l.length) = true := decide_eq_true (by omega)
  have HR : Hid (true = many l) := Hi_ (by unfold many; rw [decide_eq_true h6]; rfl)
  generalize many l = T at *
  clear HCF
  go_enter Tryz.func59, Tryz.ntmps59
  go_wp2
  go_ret
  exact ⟨by rw [← HR.out]; rfl, (Bel.rfl_ w).al _⟩
 have d6 : decide ((6 : Int) < l.length) = false := decide_eq_false (by omega)
 have d6' : ¬ 6 < l.length := h6
 have HR : Hid (FB l 0 = many l) := Hi_ (by unfold many manyL; rw [decide_eq_false h6, Bool.false_or]; exact (FB_eq l 0 (by decide)).trans (by simp))
 generalize FB l 0 = B at *
 generalize many l = T at *
 go_enter Tryz.func59, Tryz.ntmps59
 go_upto_region 3 with fail
 go_cut [3] from 8 to 9 (fun u wx => ∃ R PV : Nat, u = .pointer (some ⟨PV, 0, none⟩) ∧ w.heap.size < R ∧ PV ≠ R ∧ Hid (Bel w wx) ∧ Hid (Blk wx R CT #[.int .i64 0]) ∧ Hid (Blk wx PV PT #[.pointer (some ⟨R, 0, none⟩)]) ∧ Hid (Blk wx w.heap.size 24 #[.slice A l.length c]))
 case first =>
  go_wp2
  go_meet
  have k1 := Blk.new w 24 #[.slice A l.length c]
  have k2 := Blk.new (w.alloc (.cells #[.slice A l.length c] 24)) CT #[.int .i64 0]
  rw [alloc_size] at k2
  have k3 := Blk.new ((w.alloc (.cells #[.slice A l.length c] 24)).alloc (.cells #[.int .i64 0] CT)) PT #[.pointer (some ⟨w.heap.size + 1, 0, none⟩)]
  rw [alloc_size, alloc_size] at k3
  exact ⟨_, _, rfl, by omega, by omega, Hi_ ((((Bel.rfl_ w).al _).al _).al _), Hi_ (k2.keep ((Bel.rfl_ _).al _)), Hi_ k3, Hi_ ((k1.keep ((Bel.rfl_ _).al _)).keep ((Bel.rfl_ _).al _))⟩
 case rest =>
  obtain ⟨R, PV, rfl, hR, hPV, HB, HC, HP, HQ⟩ := hcut
  have c0 := HQ.out.cell (i := 0) (v := .slice A l.length c) rfl
  go_wp2_with fail
  refine (HCF.out R PV (by omega) hPV _ HB.out HC.out HP.out).mono ?_
  rintro r w1 ⟨rfl, hg⟩
  have HB2 := Hi_ (grownBel HB.out (by omega) hg)
  clear hg c0
  go_wp2
  go_ret
  exact ⟨by rw [← HR.out]; rfl, HB2.out⟩
set_option maxRecDepth 20000 in
set_option maxHeartbeats 4000000 in
/-- the program's Check -/
theorem check_any (l : List TF) (v : Value) (w : World) (h : Sl tfR w v l) : Calls Tryz.prog 22 #[.agg #[v]] w fun r w' => r = .returned (.int .i64 (errT l)) ∧ Bel w w' := by
 have HSL := Hi_ h
 have HLM := Hi_ (fun W (hb : Bel w W) => limits_any l v W (h.keep hb))
 have HOK := Hi_ (fun (k : Nat) (x : TF) (hx : l[k]? = some x) => okFs_step hx)
 obtain ⟨A, c, rfl, hcl, hm, -⟩ := h
 have hll : l.length ≤ 9223372036854775807 := by have := hm.1; simp only [maxLen] at this; omega
 have HQ := Hi_ (Blk.new w 24 #[.slice A l.length c])
 have HB0 := Hi_ ((Bel.rfl_ w).al (.cells #[.slice A l.length c] 24))
 have HE : Hid (errT l = if many l then 2 else if l.length = 0 then 1 else if okFs l then 0 else 1) := Hi_ rfl
 clear hcl hm
 generalize errT l = T at *
 go_enter Tryz.func22, Tryz.ntmps22
 go_upto_region 1 with fail
 generalize w.alloc (.cells #[.slice A l.length c] 24) = W0 at *
 generalize w.heap.size = P at *
 have c0 := HQ.out.cell (i := 0) (v := .slice A l.length c) rfl
 go_wp2_with fail
 refine (HLM.out _ HB0.out).mono ?_
 rintro r w1 ⟨rfl, hb⟩
 replace HB0 := Hi_ (HB0.out.tr hb)
 replace HQ := Hi_ (HQ.out.keep hb)
 clear hb c0
 cases hmn : many l with
 | true =>
  have HR : Hid (2 = T) := Hi_ (by rw [HE.out, hmn]; rfl)
  clear hmn
  go_wp2
  go_ret
  exact ⟨by rw [← HR.out]; rfl, HB0.out⟩
 | false =>
  have c0 := HQ.out.cell (i := 0) (v := .slice A l.length c) rfl
  rw [hmn, if_neg (by decide)] at HE
  clear hmn
  by_cases h0 : l.length = 0
  ·have HR : Hid (1 = T) := Hi_ (by rw [HE.out, if_pos h0])
   have d0 : ((l.length : Int) == 0) = true := by simpa using h0
   clear h0
   go_wp2
   go_ret
   exact ⟨by rw [← HR.out]; rfl, HB0.out⟩
  have d0 : ((l.length : Int) == 0) = false := by simpa using h0
  rw [if_neg h0] at HE
  have HT : Hid ((if okFs (l.drop 0) then 0 else 1) = T) := Hi_ HE.out.symm
  clear HE h0
  go_wp2
  clear c0 d0
  go_loopw [14] (fun i wr => ∃ j : Nat, i = .int .i64 j ∧ j ≤ l.length ∧ Hid ((if okFs (l.drop j) then 0 else 1) = T) ∧ Hid (Bel w wr) ∧ Hid (Blk wr P 24 #[.slice A l.length c])) (fun i _ => l.length - (intOf i).toNat)
  case atStart => exact ⟨0, rfl, Nat.zero_le _, HT, HB0, HQ⟩
  case round =>
   obtain ⟨j, rfl, hj, HS, HB, HQ⟩ := hrel
   obtain ⟨WO, hWO⟩ : ∃ W, W = wr := ⟨_, rfl⟩
   subst hWO
   clear HT HB0
   have c0 := HQ.out.cell (i := 0) (v := .slice A l.length c) rfl
   by_cases hlt : j < l.length
   rotate_left
   ·have hdd : decide ((j : Int) < l.length) = false := decide_eq_false (by omega)
    have HR : Hid (0 = T) := Hi_ (by rw [← HS.out, List.drop_eq_nil_of_le (by omega)]; rfl)
    go_wp2
    go_ret
    exact ⟨by rw [← HR.out]; rfl, HB.out⟩
   have hdd : decide ((j : Int) < l.length) = true := decide_eq_true (by omega)
   obtain ⟨x, hx⟩ : ∃ x, l[j]? = some x := ⟨_, List.getElem?_eq_getElem hlt⟩
   obtain ⟨b, o, cs, rfl, hcs, hca⟩ := tfAt (HSL.out.keep HB.out) hx
   obtain ⟨m, hm⟩ : ∃ m, decide (j + 1 = l.length) = m := ⟨_, rfl⟩
   have HD : Hid ((if (x.ok m && okFs (l.drop (j + 1))) then 0 else 1) = T) := Hi_ (by rw [← hm, ← HOK.out j x hx]; exact HS.out)
   have hmd : ((j : Int) == l.length - 1) = m := by
    rw [← hm, Bool.eq_iff_iff]
    simp
    omega
   have HF := Hi_ (fun W (hb : Bel WO W) => fnOk_any x m cs W (tfR.keep hb hcs))
   have i0 : (0 : Int) ≤ j := by omega
   have i1 : (j : Int) < l.length := by omega
   have HL := Hi_ (tfR.len hcs)
   have HON := Hi_ (tfR_one hcs)
   have HCA := Hi_ hca
   clear hcs hca hx HS hm
   generalize x.ok m = bm at *
   go_upto_region 7 with fail
   refine wl_region ?_
   try dsimp only [List.append]
   refine wl_k (some 16) (.int .i64 j) ?_
   refine wl_e (some 17) (.pointer (some ⟨b, o + j * 10, none⟩)) (by go_simp) ?_
   refine wl_e (some 18) (.agg cs.toArray) (run_loadRow 51 (.tmp 17) rfl elTF b (o + j * 10) (by kernel_rfl) cs HCA.out HL.out (by kernel_rfl)) ?_
   refine wl_alloc (some 4) rfl 51 rfl rfl elTF fun z hz => ?_
   refine wl_k (some 3) (.int .i64 j) ?_
   refine wl_store none rfl 51 (.tmp 4) (.tmp 18) rfl rfl elTF WO.heap.size cs (by kernel_rfl) (by kernel_rfl) (Blk.new WO 51 z) hz HL.out HON.out ?_
   have HX : Hid (Bel WO ((WO.alloc (.cells z 51)).setRow WO.heap.size cs.toArray)) := Hi_ (((Bel.rfl_ WO).al _).row (Nat.le_refl _) _)
   have HK := Hi_ ((Blk.new WO 51 z).row_same cs.toArray)
   have HQ2 := Hi_ (HQ.out.keep HX.out)
   clear hz c0
   generalize (WO.alloc (.cells z 51)).setRow WO.heap.size cs.toArray = W1 at *
   generalize WO.heap.size = K at *
   refine wl_nil ?_
   try simp only [Act.put, lA, lB, lC]
   go_upto_region 8 with fail
   refine wl_region ?_
   try dsimp only [List.append]
   refine wl_e (some 19) (.agg cs.toArray) (run_loadRow 51 (.tmp 4) rfl elTF K 0 (by kernel_rfl) cs (blk_all HK.out) HL.out (by kernel_rfl)) ?_
   refine wl_k (some 20) (.int .i64 j) ?_
   refine wl_k (some 21) (.pointer (some ⟨P, 0, none⟩)) ?_
   refine wl_e (some 22) (.slice (some ⟨b, o, none⟩) l.length c) (rl_fs_ (HQ2.out.cell (i := 0) rfl)) ?_
   refine wl_k (some 23) (.int .i64 l.length) ?_
   refine wl_e (some 24) (.int .i64 (l.length - 1)) (Eq.trans (b := .ok (.value (.int .i64 (IntKind.i64.wrap ((l.length : Int) - 1)))) _) (by kernel_rfl) (by rw [show IntKind.i64.wrap ((l.length : Int) - 1) = l.length - 1 by rw [IntKind.wrap_i64]; omega])) ?_
   refine wl_e (some 25) (.bool m) (rb_eqlI rfl (by kernel_rfl) (by kernel_rfl) hmd) ?_
   refine wl_cl (some 26) 60 #[.agg cs.toArray, .bool m] (HF.out _ HX.out) ?_
   rintro r W3 ⟨rfl, hb⟩
   replace HX := Hi_ (HX.out.tr hb)
   replace HQ2 := Hi_ (HQ2.out.keep hb)
   clear hb HK
   refine ⟨_, rfl, ?_⟩
   refine wl_k (some 27) (.bool (!bm)) ?_
   refine wl_nil ?_
   try simp only [Act.put, lA, lB, lC]
   cases bm with
   | false =>
    have HR : Hid (1 = T) := Hi_ (by rw [← HD.out, Bool.false_and]; rfl)
    go_wp2
    go_ret
    exact ⟨by rw [← HR.out]; rfl, HB.out.tr HX.out⟩
   | true =>
    rw [Bool.true_and] at HD
    go_wp2
    go_roundw
    case rel => exact ⟨j + 1, by go_num, by omega, HD, Hi_ (HB.out.tr HX.out), HQ2⟩
    case measure => simp [intOf]; omega
end Go.Proofs.YtmfjlcpjemccmaaGreatDoor
