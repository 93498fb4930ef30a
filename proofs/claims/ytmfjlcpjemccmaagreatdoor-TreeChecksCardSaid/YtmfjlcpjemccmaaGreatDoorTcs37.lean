/- The document counts commands at every depth, and says whether there is too much: walked. Each lemma states its own conditions. -/
import Derived.Test.YtmfjlcpjemccmaaGreatDoorTcs36
import Derived.Test.YtmfjlcpjemccmaaGreatDoorTcs24
namespace Go.Proofs.YtmfjlcpjemccmaaGreatDoor
open Go.RowKit
theorem count_nil (A : Option Addr) (c : Nat) (d : Int) (w : World) : Calls Tryz.prog 81 #[.slice A 0 c, .int .i64 d] w fun r w' => r = .returned (.int .i64 0) ∧ Bel w w' := by
 have HRF := Hi_ (Bel.rfl_ w)
 go_enter Tryz.func81, Tryz.ntmps81
 go_wp2
 go_loopw [5, 6] (fun a i wr => a = .int .i64 0 ∧ i = .int .i64 0 ∧ Hid (Bel w wr)) (fun _ _ _ => 0)
 case atStart => exact ⟨rfl, rfl, HRF⟩
 case round =>
  obtain ⟨rfl, rfl, HB⟩ := hrel
  go_wp2
  go_ret
  exact ⟨rfl, HB.out⟩
theorem count_deep (l : List TC) (v : Value) (w : World) (h : Sl tcR w v l) : Calls Tryz.prog 81 #[v, .int .i64 6] w fun r w' => r = .returned (.int .i64 (capN l 6)) ∧ Bel w w' := by
 obtain ⟨A, c, rfl, hc, hm, -⟩ := h
 by_cases h0 : l.length = 0
 ·obtain rfl := List.eq_nil_of_length_eq_zero h0
  exact count_nil A c 6 w
 ·have hT : Hid ((41 : Int) = capN l 6) := Hi_ (by
   cases l with
   | nil => exact absurd rfl h0
   | cons x xs => unfold capN; rw [fineL, decide_eq_false (by decide)]; rfl)
  have hl0 : decide (0 < l.length) = true := decide_eq_true (by omega)
  have hl1 : 0 < l.length := by omega
  have hll : l.length ≤ 9223372036854775807 := by have := hm.1; simp only [maxLen] at this; omega
  clear hc hm h0
  go_enter Tryz.func81, Tryz.ntmps81
  go_wp2
  go_ret
  exact ⟨by rw [hT.out]; rfl, Bel.rfl_ w⟩
/-- countCmds -/
theorem count_any : ∀ (n : Nat) (d : Int), d + n = 6 → 1 ≤ d → ∀ (l : List TC) (v : Value) (w : World), Sl tcR w v l → Calls Tryz.prog 81 #[v, .int .i64 d] w fun r w' => r = .returned (.int .i64 (capN l d)) ∧ Bel w w'
 | 0, d, hd, _, l, v, w, h => by
  obtain rfl : d = 6 := by omega
  exact count_deep l v w h
 | n + 1, d, hd, h1, l, v, w, h => count_step l d v w h h1 (by omega) (count_any n (d + 1) (by omega) (by omega))
/-- the cells of a function in a block of its own -/
theorem tfAt {w : World} {A : Option Addr} {n c : Nat} {xs : List TF} (h : Sl tfR w (.slice A n c) xs) {k : Nat} {x : TF} (hk : xs[k]? = some x) :
  ∃ b o cs, A = some ⟨b, o, none⟩ ∧ TFR w x cs ∧ CellsAt w b (o + k * 10) cs := by
 obtain ⟨A', c', hv, -, -, h4⟩ := h
 injection hv with hv
 subst hv
 obtain ⟨b, o, rfl, h5⟩ := h4 (by have := (List.getElem?_eq_some_iff.1 hk).1; omega)
 obtain ⟨cs, h6, h7⟩ := h5 k x hk
 exact ⟨b, o, cs, rfl, h6, h7⟩
theorem copyTF {ops : Array Oper} {rest : List Oper} {o1 o2 o3 : Oper} {a : Act} {w : World} {Q : Exit → Act → World → Prop} (x y z : Operand) (hg1 : o1.guard = none) (hg2 : o2.guard = none) (hg3 : o3.guard = none)
  (ho1 : o1.op = .load 51 x) (ho2 : o2.op = .alloc 51) (ho3 : o3.op = .store 51 y z) (b o : Nat) (hx : a.eval x = .pointer (some ⟨b, o, none⟩)) (cs : List Value) (hc : CellsAt w b o cs) {c : TF} (hr : TFR w c cs)
  (hy : ((a.put o1.dst (.agg cs.toArray)).put o2.dst (.pointer (some ⟨w.heap.size, 0, none⟩))).eval y = .pointer (some ⟨w.heap.size, 0, none⟩))
  (hz : ((a.put o1.dst (.agg cs.toArray)).put o2.dst (.pointer (some ⟨w.heap.size, 0, none⟩))).eval z = .agg cs.toArray)
  (h : wpList Tryz.prog ops Q rest (((a.put o1.dst (.agg cs.toArray)).put o2.dst (.pointer (some ⟨w.heap.size, 0, none⟩))).put o3.dst undef) (w.alloc (.cells cs.toArray 51))) : wpList Tryz.prog ops Q (o1 :: o2 :: o3 :: rest) a w := by
 obtain ⟨d, hu, hd⟩ := undTF
 exact wpList_copy _ x y z hg1 hg2 hg3 ho1 ho2 ho3 b o hx cs hc elTF d hu hd (tfR.len hr) (tfR_one hr) hy hz h
/-- what is left to look at -/
def manyR : List TF → Int → Bool
 | [], n => decide (40 < n)
 | f :: l, n => f.big || manyR l (n + capN f.cmds 1)
theorem manyR_drop {l : List TF} {k : Nat} {x : TF} (hx : l[k]? = some x) (n : Int) : manyR (l.drop k) n = (x.big || manyR (l.drop (k + 1)) (n + capN x.cmds 1)) := by
 obtain ⟨hl, rfl⟩ := List.getElem?_eq_some_iff.1 hx
 rw [List.drop_eq_getElem_cons hl, manyR]
theorem manyR_end {l : List TF} {k : Nat} (h : l.length ≤ k) (n : Int) : manyR (l.drop k) n = decide (40 < n) := by rw [List.drop_eq_nil_of_le h, manyR]
theorem manyR_eq : ∀ (l : List TF) (n : Nat), manyR l n = (l.any TF.big || !l.all (fun f => fineL f.cmds 1) || decide (40 < n + (l.map fun f => cntL f.cmds).sum))
 | [], n => by
  rw [manyR]
  simp
  omega
 | f :: l, n => by
  have h1 := fun m => manyR_eq l m
  rw [manyR, List.any_cons, List.all_cons, List.map_cons, List.sum_cons]
  unfold capN
  cases hb : f.big with
  | true => simp
  | false =>
   cases hf : fineL f.cmds 1 with
   | true =>
    rw [if_pos rfl, show (n : Int) + min 41 (cntL f.cmds : Int) = ((n + min 41 (cntL f.cmds) : Nat) : Int) by omega, h1]
    simp only [Bool.false_or, Bool.true_and]
    congr 1
    exact decide_eq_decide.2 (by omega)
   | false =>
    rw [if_neg (by decide), show (n : Int) + 41 = ((n + 41 : Nat) : Int) by omega, h1]
    simp
    omega
set_option maxRecDepth 20000 in
set_option maxHeartbeats 4000000 in
theorem treeMany_any (l : List TF) (v : Value) (w : World) (h : Sl tfR w v l) : Calls Tryz.prog 36 #[.agg #[v]] w fun r w' => r = .returned (.bool (many l)) ∧ Bel w w' := by
 have HSL := Hi_ h
 have HP := Hi_ (fun (e : TE) (val : Value) W (he : TEV W e val) => partsOf_any e 15 val W (by decide) (by decide) he)
 have HC := Hi_ (fun (l : List TC) (v : Value) W (h : Sl tcR W v l) => count_any 5 1 (by decide) (by decide) l v W h)
 obtain ⟨A, c, rfl, hc, hm, -⟩ := h
 have hll : l.length ≤ 9223372036854775807 := by have := hm.1; simp only [maxLen] at this; omega
 have HQ := Hi_ (Blk.new w 24 #[.slice A l.length c])
 have HB0 := Hi_ ((Bel.rfl_ w).al (.cells #[.slice A l.length c] 24))
 clear hc hm
 by_cases h6 : 6 < l.length
 ·have d6 : decide ((6 : Int) < l.length) = true := decide_eq_true (by omega)
  have hT : Hid (true = many l) := Hi_ (by unfold many; rw [decide_eq_true h6]; rfl)
  go_enter Tryz.func36, Tryz.ntmps36
  go_wp2
  go_ret
  exact ⟨by rw [hT.out]; rfl, HB0.out⟩
 ·have d6 : decide ((6 : Int) < l.length) = false := decide_eq_false (by omega)
  have d6' : ¬ 6 < l.length := h6
  have HT : Hid (manyR (l.drop 0) 0 = many l) := Hi_ (by unfold many manyL; rw [decide_eq_false h6]; exact (manyR_eq l 0).trans (by simp))
  generalize many l = T at *
  go_enter Tryz.func36, Tryz.ntmps36
  go_upto_region 1 with fail
  generalize w.alloc (.cells #[.slice A l.length c] 24) = W0 at *
  generalize w.heap.size = P at *
  have c0 := HQ.out.cell (i := 0) (v := .slice A l.length c) rfl
  go_wp2
  clear c0 d6 d6'
  go_loopw [3, 4] (fun a i wr => ∃ (j : Nat) (n : Int), a = .int .i64 n ∧ i = .int .i64 j ∧ j ≤ l.length ∧ 0 ≤ n ∧ n ≤ 41 * j ∧ Hid (manyR (l.drop j) n = T) ∧ Hid (Bel w wr) ∧ Hid (Blk wr P 24 #[.slice A l.length c])) (fun _ i _ => l.length - (intOf i).toNat)
  case atStart => exact ⟨0, 0, rfl, rfl, Nat.zero_le _, by decide, by decide, HT, HB0, HQ⟩
  case round =>
   obtain ⟨j, n, rfl, rfl, hj, hn0, hn1, HS, HB, HQ⟩ := hrel
   obtain ⟨WO, hWO⟩ : ∃ W, W = wr := ⟨_, rfl⟩
   subst hWO
   clear HT HB0
   have c0 := HQ.out.cell (i := 0) (v := .slice A l.length c) rfl
   by_cases hlt : j < l.length
   ·have hdd : decide ((j : Int) < l.length) = true := decide_eq_true (by omega)
    obtain ⟨x, hx⟩ : ∃ x, l[j]? = some x := ⟨_, List.getElem?_eq_getElem hlt⟩
    obtain ⟨b, o, cs, rfl, hcs, hca⟩ := tfAt (HSL.out.keep HB.out) hx
    have HS2 := Hi_ (fun (h : x.big = false) => (show manyR (l.drop (j + 1)) (n + capN x.cmds 1) = T by rw [← HS.out, manyR_drop hx, h]; rfl))
    have HBAD := Hi_ (fun (h : x.big = true) => (show true = T by rw [← HS.out, manyR_drop hx, h]; rfl))
    have i0 : (0 : Int) ≤ j := by omega
    have i1 : (j : Int) < l.length := by omega
    have HCS := Hi_ hcs
    have HCA := Hi_ hca
    clear hcs hca hx HS
    go_upto_region 8 with (refine copyTF (.tmp 20) (.tmp 5) (.tmp 21) rfl rfl rfl rfl rfl rfl b (o + j * 10) (by exact rfl) cs HCA.out HCS.out (by exact rfl) (by exact rfl) ?_)
    clear c0
    have HBW := Hi_ ((Bel.rfl_ WO).al (.cells cs.toArray 51))
    have HK := Hi_ (Blk.new WO 51 cs.toArray)
    obtain ⟨vp, vv, vc, vr, rfl, -, hrn, hsp, hsv, hsc, hsr⟩ := HCS.out
    clear HCS HCA
    generalize hW1 : WO.alloc _ = W1 at *
    clear hW1
    generalize WO.heap.size = G at *
    have HRV : Hid (∀ W, Bel WO W → TEV W x.result (.agg #[.int .i64 x.result.kind, .int .i64 x.result.at_, .int .i64 x.result.n, .string x.result.name, vr])) := Hi_ fun W hb => ⟨_, rfl, hrn, hsr.keep hb⟩
    have HCC := Hi_ (fun W hb => HC.out x.cmds vc W (hsc.keep hb))
    obtain ⟨Ap, cp, rfl, -⟩ := hsp
    obtain ⟨Av, cv, rfl, -⟩ := hsv
    obtain ⟨Ac, cc, rfl, -⟩ := hsc
    obtain ⟨Ar, cr, rfl, -⟩ := hsr
    have hcN := capN_le (l := x.cmds) (d := 1)
    have HBG : Hid (x.big = (decide (3 < x.params.length) || decide (6 < x.vars.length) || x.result.great)) := Hi_ rfl
    generalize x.result.kind = rk at *
    generalize x.result.at_ = ra at *
    generalize x.result.n = rn at *
    generalize x.result.name = rs at *
    have p2 := HK.out.cell (i := 2) (v := .slice Ap x.params.length cp) rfl
    by_cases hp : 3 < x.params.length
    ·have dp : decide ((3 : Int) < x.params.length) = true := decide_eq_true (by omega)
     have HR : Hid (true = T) := Hi_ (HBAD.out (by rw [HBG.out, decide_eq_true hp]; rfl))
     go_wp2
     go_ret
     exact ⟨by rw [HR.out]; rfl, HB.out.tr HBW.out⟩
    have dp : decide ((3 : Int) < x.params.length) = false := decide_eq_false (by omega)
    rw [decide_eq_false hp, Bool.false_or] at HBG
    have p3 := HK.out.cell (i := 3) (v := .slice Av x.vars.length cv) rfl
    by_cases hv : 6 < x.vars.length
    ·have dv : decide ((6 : Int) < x.vars.length) = true := decide_eq_true (by omega)
     have HR : Hid (true = T) := Hi_ (HBAD.out (by rw [HBG.out, decide_eq_true hv]; rfl))
     go_wp2
     go_ret
     exact ⟨by rw [HR.out]; rfl, HB.out.tr HBW.out⟩
    have dv : decide ((6 : Int) < x.vars.length) = false := decide_eq_false (by omega)
    rw [decide_eq_false hv, Bool.false_or] at HBG
    have p5 := HK.out.cell (i := 5) (v := .int .i64 rk) rfl
    have p6 := HK.out.cell (i := 6) (v := .int .i64 ra) rfl
    have p7 := HK.out.cell (i := 7) (v := .int .i64 rn) rfl
    have p8 := HK.out.cell (i := 8) (v := .string rs) rfl
    have p9 := HK.out.cell (i := 9) (v := .slice Ar x.result.args.length cr) rfl
    go_wp2_with fail
    refine (HP.out x.result _ _ (HRV.out _ HBW.out)).mono ?_
    rintro r W2 ⟨rfl, hb2⟩
    replace HBW := Hi_ (HBW.out.tr hb2)
    replace HK := Hi_ (HK.out.keep hb2)
    clear hb2 p2 p3 p5 p6 p7 p8 p9 hp hv
    by_cases ge : 15 < x.result.size 15
    ·have de : decide (15 < x.result.size 15) = true := decide_eq_true ge
     have HR : Hid (true = T) := Hi_ (HBAD.out (by rw [HBG.out, great_yes ge]))
     go_wp2
     go_ret
     exact ⟨by rw [HR.out]; rfl, HB.out.tr HBW.out⟩
    have de : decide (15 < x.result.size 15) = false := decide_eq_false ge
    have de' : x.result.size 15 ≤ 15 := by omega
    replace HS2 := Hi_ (HS2.out (by rw [HBG.out, great_no ge]))
    have p4 := HK.out.cell (i := 4) (v := .slice Ac x.cmds.length cc) rfl
    go_wp2_with fail
    refine (HCC.out _ HBW.out).mono ?_
    rintro r W3 ⟨rfl, hb3⟩
    replace HBW := Hi_ (HBW.out.tr hb3)
    have HQ2 := Hi_ (HQ.out.keep HBW.out)
    clear hb3 p4 HBG HBAD
    generalize capN x.cmds 1 = m at *
    go_wp2
    go_roundw
    case rel => exact ⟨j + 1, n + m, by go_num, by go_num, by omega, by omega, by omega, HS2, HB.out.tr HBW.out, HQ2⟩
    case measure => simp [intOf]; omega
   ·have hdd : decide ((j : Int) < l.length) = false := decide_eq_false (by omega)
    have HR : Hid (decide (40 < n) = T) := Hi_ (by rw [← HS.out, manyR_end (by omega)])
    go_wp2
    go_ret
    exact ⟨by rw [← HR.out]; rfl, HB.out⟩
end Go.Proofs.YtmfjlcpjemccmaaGreatDoor
