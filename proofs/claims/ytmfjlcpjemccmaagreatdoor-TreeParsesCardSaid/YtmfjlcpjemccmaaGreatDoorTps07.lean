/- The document's reader of an expression, the simple ones: walked. Each lemma states its own conditions. -/
import Derived.Test.YtmfjlcpjemccmaaGreatDoorTps06
namespace Go.Proofs.YtmfjlcpjemccmaaGreatDoor
open Go.RowKit
set_option maxRecDepth 20000 in
set_option maxHeartbeats 4000000 in
theorem expr_num (l : List Tok) (lv : Value) (E g d : Nat) (D : Int) (p : Nat) (f : Bool) (w0 w : World) (hl : Sl tokR w0 lv l) (hn : l.length ≤ 6000) (hok : ∀ t ∈ l, TokOk t) (hm : ∀ t ∈ l, t.text.size ≤ maxLen) (hg : w0.heap.size ≤ g) (hp : p ≤ l.length) (h0 : Bel w0 w) (h : Rd w g lv p E f)
  (h1 : tx l p f ≠ lparB) (h2 : tx l p f ≠ dashB) (h3 : digD (tx l p f) = true) :
  Calls Tryz.prog 58 #[.pointer (some ⟨g, 0, none⟩), .int .i64 D] w fun r w' => ExprRes w g lv E (exprD l E d (p, f)) r w' := by
 have HHE := Hi_ (here_any l lv p E g f (w.alloc (.cells #[.int .i64 0, .int .i64 0, .int .i64 0, .string ⟨#[]⟩, .slice none 0 0] 49)) ((hl.keep h0).keep ((Bel.rfl_ w).al _)) hn (h.keep ((Bel.rfl_ w).al _)))
 have HTX := Hi_ (jTX (g := g) (E := E) hl hn)
 have HND := Hi_ (jND (g := g) (E := E) hl hn)
 have HNA := Hi_ (jNA (g := g) (E := E) hl hn hm)
 have HNU := Hi_ (jNU (g := g) (E := E) hl hn hok)
 have e40 : ((tx l p f).toList == [40]) = false := lit_false h1
 have e45 : ((tx l p f).toList == [45]) = false := lit_false h2
 have hdd : tx l p f ≠ emp ∧ isD (bt (tx l p f) 0) = true := by
  unfold digD at h3
  simpa using h3
 have hsz : 0 < (tx l p f).size := Nat.pos_of_ne_zero fun e => by
  have h := hdd.2
  rw [bt_out (by omega)] at h
  exact absurd h (by decide)
 have eem : ((tx l p f).toList == []) = false := lit_false hdd.1
 have hdg := hdd.2
 rw [bt_in hsz] at hdg
 have hb0 : (tx l p f)[0].toNat < 256 := (tx l p f)[0].toNat_lt
 have HDG := Hi_ (fun W => isDigit_any (tx l p f)[0].toNat hb0 W)
 rw [hdg] at HDG
 clear hdd hdg
 have HEQ := Hi_ (exprD_num (E := E) (d := d) h1 h2 h3)
 clear h1 h2 h3
 go_enter Tryz.func58, Tryz.ntmps58
 go_wp2_with fail
 refine HHE.out.mono ?_
 rintro r w1 ⟨rfl, hb⟩
 have HS := Hi_ (Bld.start (r := (p, f)) h 49 #[.int .i64 0, .int .i64 0, .int .i64 0, .string ⟨#[]⟩, .slice none 0 0] #[.int .i64 1, .int .i64 (place l E p), .int .i64 0, .string ⟨#[]⟩, .slice none 0 0] hb)
 clear hb HHE h
 go_upto_region 2 with fail
 generalize w1.alloc (.cells #[.int .i64 1, .int .i64 (place l E p), .int .i64 0, .string ⟨#[]⟩, .slice none 0 0] 49) = W2 at *
 generalize w1.heap.size = Q at *
 go_wp2_with fail
 refine (HTX.out _ (p, f) (HS.out.bel h0 hg) hp HS.out.1).mono ?_
 rintro r w2 ⟨rfl, hb⟩
 replace HS := Hi_ (HS.out.keep hb)
 clear hb
 go_wp2_with fail
 refine (HDG.out _).mono ?_
 rintro r w3 ⟨rfl, rfl⟩
 go_wp2_with fail
 refine (HNU.out _ (p, f) (HS.out.bel h0 hg) hp HS.out.1).mono ?_
 rintro r w4 ⟨rfl, hr4, hg4⟩
 replace HS := Hi_ (HS.out.grown hg4 hr4)
 clear hg4 hr4
 obtain ⟨z3, fz3⟩ := HS.out.rd
 have c0 := HS.out.cell 0 rfl
 have c1 := HS.out.cell 1 rfl
 have c2 := HS.out.cell 2 rfl
 have c3 := HS.out.cell 3 rfl
 have c4 := HS.out.cell 4 rfl
 have g0 := HS.out.frozen 0
 have g1 := HS.out.frozen 1
 have g2 := HS.out.frozen 2
 have g3 := HS.out.frozen 3
 have g4 := HS.out.frozen 4
 go_upto_region 40 with fail
 replace HS := Hi_ ((HS.out.put 2 (.int .i64 (numD l (p, f)).1)).to (cs' := #[.int .i64 1, .int .i64 (place l E p), .int .i64 (numD l (p, f)).1, .string ⟨#[]⟩, .slice none 0 0]) rfl)
 generalize w4.setCell ⟨Q, 2, none⟩ (.int .i64 (numD l (p, f)).1) = W5 at *
 clear z3 fz3 c0 c1 c2 c3 c4 g0 g1 g2 g3 g4
 obtain ⟨z3, fz3⟩ := HS.out.rd
 have c0 := HS.out.cell 0 rfl
 have c1 := HS.out.cell 1 rfl
 have c2 := HS.out.cell 2 rfl
 have c3 := HS.out.cell 3 rfl
 have c4 := HS.out.cell 4 rfl
 have g0 := HS.out.frozen 0
 have g1 := HS.out.frozen 1
 have g2 := HS.out.frozen 2
 have g3 := HS.out.frozen 3
 have g4 := HS.out.frozen 4
 have r0 := HS.out.rcell 0 rfl
 have r1 := HS.out.rcell 1 rfl
 have r2 := HS.out.rcell 2 rfl
 have r3 := HS.out.rcell 3 rfl
 have r4 := HS.out.rcell 4 rfl
 have f0 := HS.out.rfrozen 0
 have f1 := HS.out.rfrozen 1
 have f2 := HS.out.rfrozen 2
 have f3 := HS.out.rfrozen 3
 have f4 := HS.out.rfrozen 4
 go_wp2
 have HF := Hi_ (((((HS.out.res 0 (.int .i64 1)).res 1 (.int .i64 (place l E p))).res 2 (.int .i64 (numD l (p, f)).1)).res 3 (.string ⟨#[]⟩)).res 4 (.slice none 0 0))
 have d0 := HF.out.rcell 0 rfl
 have d1 := HF.out.rcell 1 rfl
 have d2 := HF.out.rcell 2 rfl
 have d3 := HF.out.rcell 3 rfl
 have d4 := HF.out.rcell 4 rfl
 refine bodyPost_ret (v := .agg #[.int .i64 1, .int .i64 (place l E p), .int .i64 (numD l (p, f)).1, .string ⟨#[]⟩, .slice none 0 0]) (by simp [results, d0, d1, d2, d3, d4, go_sem]) rfl (.mk HEQ.out HF.out.grew HF.out.1 (Nat.zero_le _) (Sl.nil_ _ _))
set_option maxRecDepth 20000 in
set_option maxHeartbeats 4000000 in
theorem expr_deep (l : List Tok) (lv : Value) (E g : Nat) (D : Int) (p : Nat) (f : Bool) (w0 w : World) (hl : Sl tokR w0 lv l) (hn : l.length ≤ 6000) (hok : ∀ t ∈ l, TokOk t) (hm : ∀ t ∈ l, t.text.size ≤ maxLen) (hg : w0.heap.size ≤ g) (hp : p ≤ l.length) (h0 : Bel w0 w) (h : Rd w g lv p E f)
  (h1 : tx l p f = lparB) (hD : (D == 60) = true) :
  Calls Tryz.prog 58 #[.pointer (some ⟨g, 0, none⟩), .int .i64 D] w fun r w' => ExprRes w g lv E (exprD l E 0 (p, f)) r w' := by
 have HHE := Hi_ (here_any l lv p E g f (w.alloc (.cells #[.int .i64 0, .int .i64 0, .int .i64 0, .string ⟨#[]⟩, .slice none 0 0] 49)) ((hl.keep h0).keep ((Bel.rfl_ w).al _)) hn (h.keep ((Bel.rfl_ w).al _)))
 have HTX := Hi_ (jTX (g := g) (E := E) hl hn)
 have HND := Hi_ (jND (g := g) (E := E) hl hn)
 have HNA := Hi_ (jNA (g := g) (E := E) hl hn hm)
 have HNU := Hi_ (jNU (g := g) (E := E) hl hn hok)
 have e40 : ((tx l p f).toList == [40]) = true := lit_true h1
 have HEQ := Hi_ (exprD_deep (E := E) h1)
 clear h1
 go_enter Tryz.func58, Tryz.ntmps58
 go_wp2_with fail
 refine HHE.out.mono ?_
 rintro r w1 ⟨rfl, hb⟩
 have HS := Hi_ (Bld.start (r := (p, f)) h 49 #[.int .i64 0, .int .i64 0, .int .i64 0, .string ⟨#[]⟩, .slice none 0 0] #[.int .i64 1, .int .i64 (place l E p), .int .i64 0, .string ⟨#[]⟩, .slice none 0 0] hb)
 clear hb HHE h
 go_upto_region 2 with fail
 generalize w1.alloc (.cells #[.int .i64 1, .int .i64 (place l E p), .int .i64 0, .string ⟨#[]⟩, .slice none 0 0] 49) = W2 at *
 generalize w1.heap.size = Q at *
 go_wp2_with fail
 refine (HTX.out _ (p, f) (HS.out.bel h0 hg) hp HS.out.1).mono ?_
 rintro r w2 ⟨rfl, hb⟩
 replace HS := Hi_ (HS.out.keep hb)
 clear hb
 obtain ⟨z3, fz3⟩ := HS.out.rd
 have c0 := HS.out.cell 0 rfl
 have c1 := HS.out.cell 1 rfl
 have c2 := HS.out.cell 2 rfl
 have c3 := HS.out.cell 3 rfl
 have c4 := HS.out.cell 4 rfl
 have g0 := HS.out.frozen 0
 have g1 := HS.out.frozen 1
 have g2 := HS.out.frozen 2
 have g3 := HS.out.frozen 3
 have g4 := HS.out.frozen 4
 go_upto_region 17 with fail
 replace HS := Hi_ HS.out.bad
 generalize HW9 : World.setCell _ _ _ = W5 at *
 clear HW9
 clear z3 fz3 c0 c1 c2 c3 c4 g0 g1 g2 g3 g4
 obtain ⟨z3, fz3⟩ := HS.out.rd
 have c0 := HS.out.cell 0 rfl
 have c1 := HS.out.cell 1 rfl
 have c2 := HS.out.cell 2 rfl
 have c3 := HS.out.cell 3 rfl
 have c4 := HS.out.cell 4 rfl
 have g0 := HS.out.frozen 0
 have g1 := HS.out.frozen 1
 have g2 := HS.out.frozen 2
 have g3 := HS.out.frozen 3
 have g4 := HS.out.frozen 4
 have r0 := HS.out.rcell 0 rfl
 have r1 := HS.out.rcell 1 rfl
 have r2 := HS.out.rcell 2 rfl
 have r3 := HS.out.rcell 3 rfl
 have r4 := HS.out.rcell 4 rfl
 have f0 := HS.out.rfrozen 0
 have f1 := HS.out.rfrozen 1
 have f2 := HS.out.rfrozen 2
 have f3 := HS.out.rfrozen 3
 have f4 := HS.out.rfrozen 4
 go_wp2
 have HF := Hi_ (((((HS.out.res 0 (.int .i64 1)).res 1 (.int .i64 (place l E p))).res 2 (.int .i64 0)).res 3 (.string ⟨#[]⟩)).res 4 (.slice none 0 0))
 have d0 := HF.out.rcell 0 rfl
 have d1 := HF.out.rcell 1 rfl
 have d2 := HF.out.rcell 2 rfl
 have d3 := HF.out.rcell 3 rfl
 have d4 := HF.out.rcell 4 rfl
 refine bodyPost_ret (v := .agg #[.int .i64 1, .int .i64 (place l E p), .int .i64 0, .string ⟨#[]⟩, .slice none 0 0]) (by simp [results, d0, d1, d2, d3, d4, go_sem]) rfl (.mk HEQ.out HF.out.grew HF.out.1 (Nat.zero_le _) (Sl.nil_ _ _))
set_option maxRecDepth 20000 in
set_option maxHeartbeats 4000000 in
theorem expr_dash (l : List Tok) (lv : Value) (E g d : Nat) (D : Int) (p : Nat) (f : Bool) (w0 w : World) (hl : Sl tokR w0 lv l) (hn : l.length ≤ 6000) (hok : ∀ t ∈ l, TokOk t) (hm : ∀ t ∈ l, t.text.size ≤ maxLen) (hg : w0.heap.size ≤ g) (hp : p ≤ l.length) (h0 : Bel w0 w) (h : Rd w g lv p E f)
  (h1 : tx l p f ≠ lparB) (h2 : tx l p f = dashB) :
  Calls Tryz.prog 58 #[.pointer (some ⟨g, 0, none⟩), .int .i64 D] w fun r w' => ExprRes w g lv E (exprD l E d (p, f)) r w' := by
 have HHE := Hi_ (here_any l lv p E g f (w.alloc (.cells #[.int .i64 0, .int .i64 0, .int .i64 0, .string ⟨#[]⟩, .slice none 0 0] 49)) ((hl.keep h0).keep ((Bel.rfl_ w).al _)) hn (h.keep ((Bel.rfl_ w).al _)))
 have HTX := Hi_ (jTX (g := g) (E := E) hl hn)
 have HND := Hi_ (jND (g := g) (E := E) hl hn)
 have HNA := Hi_ (jNA (g := g) (E := E) hl hn hm)
 have HNU := Hi_ (jNU (g := g) (E := E) hl hn hok)
 have e40 : ((tx l p f).toList == [40]) = false := lit_false h1
 have e45 : ((tx l p f).toList == [45]) = true := lit_true h2
 have HEQ := Hi_ (exprD_dash (E := E) (d := d) h1 h2)
 have hp1 := needD_le (l := l) (s := dashB) (q := (p, f)) (by decide) hp
 clear h1 h2
 go_enter Tryz.func58, Tryz.ntmps58
 go_wp2_with fail
 refine HHE.out.mono ?_
 rintro r w1 ⟨rfl, hb⟩
 have HS := Hi_ (Bld.start (r := (p, f)) h 49 #[.int .i64 0, .int .i64 0, .int .i64 0, .string ⟨#[]⟩, .slice none 0 0] #[.int .i64 1, .int .i64 (place l E p), .int .i64 0, .string ⟨#[]⟩, .slice none 0 0] hb)
 clear hb HHE h
 go_upto_region 2 with fail
 generalize w1.alloc (.cells #[.int .i64 1, .int .i64 (place l E p), .int .i64 0, .string ⟨#[]⟩, .slice none 0 0] 49) = W2 at *
 generalize w1.heap.size = Q at *
 go_wp2_with fail
 refine (HTX.out _ (p, f) (HS.out.bel h0 hg) hp HS.out.1).mono ?_
 rintro r w2 ⟨rfl, hb⟩
 replace HS := Hi_ (HS.out.keep hb)
 clear hb
 go_wp2_with fail
 refine (HND.out _ (p, f) ⟨#[45]⟩ (HS.out.bel h0 hg) hp HS.out.1).mono ?_
 rintro r w3 ⟨⟨v3, rfl⟩, hr3, hg3⟩
 replace HS := Hi_ (HS.out.grown (r' := needD l dashB (p, f)) hg3 hr3)
 clear hg3 hr3 HND
 generalize needD l dashB (p, f) = q1 at *
 go_wp2_with fail
 refine (HTX.out _ q1 (HS.out.bel h0 hg) hp1 HS.out.1).mono ?_
 rintro r w4 ⟨rfl, hb⟩
 replace HS := Hi_ (HS.out.keep hb)
 clear hb
 by_cases hz : tx l q1.1 q1.2 = zeroB
 ·have e48 : ((tx l q1.1 q1.2).toList == [48]) = true := lit_true hz
  have hfd : failD (decide (tx l q1.1 q1.2 = zeroB)) q1 = (q1.1, true) := by unfold failD; rw [decide_eq_true hz]; rfl
  rw [hfd] at HEQ
  have hnb := (numD_le (q := (q1.1, true)) hok hp1).2
  clear hz hfd
  obtain ⟨z3, fz3⟩ := HS.out.rd
  have c0 := HS.out.cell 0 rfl
  have c1 := HS.out.cell 1 rfl
  have c2 := HS.out.cell 2 rfl
  have c3 := HS.out.cell 3 rfl
  have c4 := HS.out.cell 4 rfl
  have g0 := HS.out.frozen 0
  have g1 := HS.out.frozen 1
  have g2 := HS.out.frozen 2
  have g3 := HS.out.frozen 3
  have g4 := HS.out.frozen 4
  replace HS := Hi_ HS.out.bad
  go_wp2_with fail
  refine (HNU.out _ (q1.1, true) (HS.out.bel h0 hg) hp1 HS.out.1).mono ?_
  rintro r w5 ⟨rfl, hr5, hg5⟩
  replace HS := Hi_ (HS.out.grown hg5 hr5)
  clear hg5 hr5
  generalize numD l (q1.1, true) = m at *
  obtain ⟨n5, q5⟩ := m
  dsimp only at *
  clear z3 fz3 c0 c1 c2 c3 c4 g0 g1 g2 g3 g4
  obtain ⟨z3, fz3⟩ := HS.out.rd
  have c0 := HS.out.cell 0 rfl
  have c1 := HS.out.cell 1 rfl
  have c2 := HS.out.cell 2 rfl
  have c3 := HS.out.cell 3 rfl
  have c4 := HS.out.cell 4 rfl
  have g0 := HS.out.frozen 0
  have g1 := HS.out.frozen 1
  have g2 := HS.out.frozen 2
  have g3 := HS.out.frozen 3
  have g4 := HS.out.frozen 4
  go_upto_region 40 with fail
  replace HS := Hi_ ((HS.out.put 2 (.int .i64 (-n5))).to (cs' := #[.int .i64 1, .int .i64 (place l E p), .int .i64 (-n5), .string ⟨#[]⟩, .slice none 0 0]) rfl)
  generalize w5.setCell ⟨Q, 2, none⟩ (.int .i64 (-n5)) = W5 at *
  clear z3 fz3 c0 c1 c2 c3 c4 g0 g1 g2 g3 g4
  obtain ⟨z3, fz3⟩ := HS.out.rd
  have c0 := HS.out.cell 0 rfl
  have c1 := HS.out.cell 1 rfl
  have c2 := HS.out.cell 2 rfl
  have c3 := HS.out.cell 3 rfl
  have c4 := HS.out.cell 4 rfl
  have g0 := HS.out.frozen 0
  have g1 := HS.out.frozen 1
  have g2 := HS.out.frozen 2
  have g3 := HS.out.frozen 3
  have g4 := HS.out.frozen 4
  have r0 := HS.out.rcell 0 rfl
  have r1 := HS.out.rcell 1 rfl
  have r2 := HS.out.rcell 2 rfl
  have r3 := HS.out.rcell 3 rfl
  have r4 := HS.out.rcell 4 rfl
  have f0 := HS.out.rfrozen 0
  have f1 := HS.out.rfrozen 1
  have f2 := HS.out.rfrozen 2
  have f3 := HS.out.rfrozen 3
  have f4 := HS.out.rfrozen 4
  go_wp2
  have HF := Hi_ (((((HS.out.res 0 (.int .i64 1)).res 1 (.int .i64 (place l E p))).res 2 (.int .i64 (-n5))).res 3 (.string ⟨#[]⟩)).res 4 (.slice none 0 0))
  have d0 := HF.out.rcell 0 rfl
  have d1 := HF.out.rcell 1 rfl
  have d2 := HF.out.rcell 2 rfl
  have d3 := HF.out.rcell 3 rfl
  have d4 := HF.out.rcell 4 rfl
  refine bodyPost_ret (v := .agg #[.int .i64 1, .int .i64 (place l E p), .int .i64 (-n5), .string ⟨#[]⟩, .slice none 0 0]) (by simp [results, d0, d1, d2, d3, d4, go_sem]) rfl (.mk HEQ.out HF.out.grew HF.out.1 (Nat.zero_le _) (Sl.nil_ _ _))
 ·have e48 : ((tx l q1.1 q1.2).toList == [48]) = false := lit_false hz
  have hfd : failD (decide (tx l q1.1 q1.2 = zeroB)) q1 = q1 := by unfold failD; rw [decide_eq_false hz]; rfl
  rw [hfd] at HEQ
  have hnb := (numD_le (q := q1) hok hp1).2
  clear hz hfd
  obtain ⟨z3, fz3⟩ := HS.out.rd
  have c0 := HS.out.cell 0 rfl
  have c1 := HS.out.cell 1 rfl
  have c2 := HS.out.cell 2 rfl
  have c3 := HS.out.cell 3 rfl
  have c4 := HS.out.cell 4 rfl
  have g0 := HS.out.frozen 0
  have g1 := HS.out.frozen 1
  have g2 := HS.out.frozen 2
  have g3 := HS.out.frozen 3
  have g4 := HS.out.frozen 4
  go_wp2_with fail
  refine (HNU.out _ q1 (HS.out.bel h0 hg) hp1 HS.out.1).mono ?_
  rintro r w5 ⟨rfl, hr5, hg5⟩
  replace HS := Hi_ (HS.out.grown hg5 hr5)
  clear hg5 hr5
  generalize numD l q1 = m at *
  obtain ⟨n5, q5⟩ := m
  dsimp only at *
  clear z3 fz3 c0 c1 c2 c3 c4 g0 g1 g2 g3 g4
  obtain ⟨z3, fz3⟩ := HS.out.rd
  have c0 := HS.out.cell 0 rfl
  have c1 := HS.out.cell 1 rfl
  have c2 := HS.out.cell 2 rfl
  have c3 := HS.out.cell 3 rfl
  have c4 := HS.out.cell 4 rfl
  have g0 := HS.out.frozen 0
  have g1 := HS.out.frozen 1
  have g2 := HS.out.frozen 2
  have g3 := HS.out.frozen 3
  have g4 := HS.out.frozen 4
  go_upto_region 40 with fail
  replace HS := Hi_ ((HS.out.put 2 (.int .i64 (-n5))).to (cs' := #[.int .i64 1, .int .i64 (place l E p), .int .i64 (-n5), .string ⟨#[]⟩, .slice none 0 0]) rfl)
  generalize w5.setCell ⟨Q, 2, none⟩ (.int .i64 (-n5)) = W5 at *
  clear z3 fz3 c0 c1 c2 c3 c4 g0 g1 g2 g3 g4
  obtain ⟨z3, fz3⟩ := HS.out.rd
  have c0 := HS.out.cell 0 rfl
  have c1 := HS.out.cell 1 rfl
  have c2 := HS.out.cell 2 rfl
  have c3 := HS.out.cell 3 rfl
  have c4 := HS.out.cell 4 rfl
  have g0 := HS.out.frozen 0
  have g1 := HS.out.frozen 1
  have g2 := HS.out.frozen 2
  have g3 := HS.out.frozen 3
  have g4 := HS.out.frozen 4
  have r0 := HS.out.rcell 0 rfl
  have r1 := HS.out.rcell 1 rfl
  have r2 := HS.out.rcell 2 rfl
  have r3 := HS.out.rcell 3 rfl
  have r4 := HS.out.rcell 4 rfl
  have f0 := HS.out.rfrozen 0
  have f1 := HS.out.rfrozen 1
  have f2 := HS.out.rfrozen 2
  have f3 := HS.out.rfrozen 3
  have f4 := HS.out.rfrozen 4
  go_wp2
  have HF := Hi_ (((((HS.out.res 0 (.int .i64 1)).res 1 (.int .i64 (place l E p))).res 2 (.int .i64 (-n5))).res 3 (.string ⟨#[]⟩)).res 4 (.slice none 0 0))
  have d0 := HF.out.rcell 0 rfl
  have d1 := HF.out.rcell 1 rfl
  have d2 := HF.out.rcell 2 rfl
  have d3 := HF.out.rcell 3 rfl
  have d4 := HF.out.rcell 4 rfl
  refine bodyPost_ret (v := .agg #[.int .i64 1, .int .i64 (place l E p), .int .i64 (-n5), .string ⟨#[]⟩, .slice none 0 0]) (by simp [results, d0, d1, d2, d3, d4, go_sem]) rfl (.mk HEQ.out HF.out.grew HF.out.1 (Nat.zero_le _) (Sl.nil_ _ _))
set_option maxRecDepth 20000 in
set_option maxHeartbeats 4000000 in
theorem expr_name (l : List Tok) (lv : Value) (E g d : Nat) (D : Int) (p : Nat) (f : Bool) (w0 w : World) (hl : Sl tokR w0 lv l) (hn : l.length ≤ 6000) (hok : ∀ t ∈ l, TokOk t) (hm : ∀ t ∈ l, t.text.size ≤ maxLen) (hg : w0.heap.size ≤ g) (hp : p ≤ l.length) (h0 : Bel w0 w) (h : Rd w g lv p E f)
  (h1 : tx l p f ≠ lparB) (h2 : tx l p f ≠ dashB) (h3 : digD (tx l p f) = false) (h4 : tx l (nameD l (p, f)).2.1 (nameD l (p, f)).2.2 ≠ lsqB) :
  Calls Tryz.prog 58 #[.pointer (some ⟨g, 0, none⟩), .int .i64 D] w fun r w' => ExprRes w g lv E (exprD l E d (p, f)) r w' := by
 have HHE := Hi_ (here_any l lv p E g f (w.alloc (.cells #[.int .i64 0, .int .i64 0, .int .i64 0, .string ⟨#[]⟩, .slice none 0 0] 49)) ((hl.keep h0).keep ((Bel.rfl_ w).al _)) hn (h.keep ((Bel.rfl_ w).al _)))
 have HTX := Hi_ (jTX (g := g) (E := E) hl hn)
 have HND := Hi_ (jND (g := g) (E := E) hl hn)
 have HNA := Hi_ (jNA (g := g) (E := E) hl hn hm)
 have HNU := Hi_ (jNU (g := g) (E := E) hl hn hok)
 have e40 : ((tx l p f).toList == [40]) = false := lit_false h1
 have e45 : ((tx l p f).toList == [45]) = false := lit_false h2
 have hns : (nameD l (p, f)).1.size ≤ maxLen := by
  unfold nameD
  split
  ·exact tok_max hm
  ·exact Nat.zero_le _
 have hp1 := nameD_le (q := (p, f)) hp
 have HEQ := Hi_ (exprD_name (E := E) (d := d) h1 h2 h3 h4)
 have e91 : ((tx l (nameD l (p, f)).2.1 (nameD l (p, f)).2.2).toList == [91]) = false := lit_false h4
 have h5 : tx l p f = emp ∨ (tx l p f ≠ emp ∧ isD (bt (tx l p f) 0) = false) := by
  unfold digD at h3
  by_cases he : tx l p f = emp
  ·exact Or.inl he
  ·exact Or.inr ⟨he, by simpa [he] using h3⟩
 clear h1 h2 h3 h4
 go_enter Tryz.func58, Tryz.ntmps58
 go_wp2_with fail
 refine HHE.out.mono ?_
 rintro r w1 ⟨rfl, hb⟩
 have HS := Hi_ (Bld.start (r := (p, f)) h 49 #[.int .i64 0, .int .i64 0, .int .i64 0, .string ⟨#[]⟩, .slice none 0 0] #[.int .i64 1, .int .i64 (place l E p), .int .i64 0, .string ⟨#[]⟩, .slice none 0 0] hb)
 clear hb HHE h
 go_upto_region 2 with fail
 generalize w1.alloc (.cells #[.int .i64 1, .int .i64 (place l E p), .int .i64 0, .string ⟨#[]⟩, .slice none 0 0] 49) = W2 at *
 generalize w1.heap.size = Q at *
 go_wp2_with fail
 refine (HTX.out _ (p, f) (HS.out.bel h0 hg) hp HS.out.1).mono ?_
 rintro r w2 ⟨rfl, hb⟩
 replace HS := Hi_ (HS.out.keep hb)
 clear hb
 rcases h5 with h5 | ⟨h5, h6⟩
 ·have eem : ((tx l p f).toList == []) = true := lit_true h5
  clear h5
  obtain ⟨z3, fz3⟩ := HS.out.rd
  have c0 := HS.out.cell 0 rfl
  have c1 := HS.out.cell 1 rfl
  have c2 := HS.out.cell 2 rfl
  have c3 := HS.out.cell 3 rfl
  have c4 := HS.out.cell 4 rfl
  have g0 := HS.out.frozen 0
  have g1 := HS.out.frozen 1
  have g2 := HS.out.frozen 2
  have g3 := HS.out.frozen 3
  have g4 := HS.out.frozen 4
  go_upto_region 4 with fail
  replace HS := Hi_ ((HS.out.put 0 (.int .i64 2)).to (cs' := #[.int .i64 2, .int .i64 (place l E p), .int .i64 0, .string ⟨#[]⟩, .slice none 0 0]) rfl)
  generalize HW8 : World.setCell _ _ _ = W3 at *
  clear HW8
  clear z3 fz3 c0 c1 c2 c3 c4 g0 g1 g2 g3 g4
  go_wp2_with fail
  refine (HNA.out _ (p, f) (HS.out.bel h0 hg) hp HS.out.1).mono ?_
  rintro r w4 ⟨rfl, hr4, hg4⟩
  replace HS := Hi_ (HS.out.grown hg4 hr4)
  clear hg4 hr4
  generalize nameD l (p, f) = m at *
  obtain ⟨nm, q1⟩ := m
  dsimp only at *
  obtain ⟨z3, fz3⟩ := HS.out.rd
  have c0 := HS.out.cell 0 rfl
  have c1 := HS.out.cell 1 rfl
  have c2 := HS.out.cell 2 rfl
  have c3 := HS.out.cell 3 rfl
  have c4 := HS.out.cell 4 rfl
  have g0 := HS.out.frozen 0
  have g1 := HS.out.frozen 1
  have g2 := HS.out.frozen 2
  have g3 := HS.out.frozen 3
  have g4 := HS.out.frozen 4
  go_upto_region 5 with fail
  replace HS := Hi_ ((HS.out.put 3 (.string nm)).to (cs' := #[.int .i64 2, .int .i64 (place l E p), .int .i64 0, .string nm, .slice none 0 0]) rfl)
  generalize w4.setCell ⟨Q, 3, none⟩ (.string nm) = W4 at *
  clear z3 fz3 c0 c1 c2 c3 c4 g0 g1 g2 g3 g4
  go_wp2_with fail
  refine (HTX.out _ q1 (HS.out.bel h0 hg) hp1 HS.out.1).mono ?_
  rintro r w5 ⟨rfl, hb⟩
  replace HS := Hi_ (HS.out.keep hb)
  clear hb
  obtain ⟨z3, fz3⟩ := HS.out.rd
  have c0 := HS.out.cell 0 rfl
  have c1 := HS.out.cell 1 rfl
  have c2 := HS.out.cell 2 rfl
  have c3 := HS.out.cell 3 rfl
  have c4 := HS.out.cell 4 rfl
  have g0 := HS.out.frozen 0
  have g1 := HS.out.frozen 1
  have g2 := HS.out.frozen 2
  have g3 := HS.out.frozen 3
  have g4 := HS.out.frozen 4
  have r0 := HS.out.rcell 0 rfl
  have r1 := HS.out.rcell 1 rfl
  have r2 := HS.out.rcell 2 rfl
  have r3 := HS.out.rcell 3 rfl
  have r4 := HS.out.rcell 4 rfl
  have f0 := HS.out.rfrozen 0
  have f1 := HS.out.rfrozen 1
  have f2 := HS.out.rfrozen 2
  have f3 := HS.out.rfrozen 3
  have f4 := HS.out.rfrozen 4
  go_wp2
  have HF := Hi_ (((((HS.out.res 0 (.int .i64 2)).res 1 (.int .i64 (place l E p))).res 2 (.int .i64 0)).res 3 (.string nm)).res 4 (.slice none 0 0))
  have d0 := HF.out.rcell 0 rfl
  have d1 := HF.out.rcell 1 rfl
  have d2 := HF.out.rcell 2 rfl
  have d3 := HF.out.rcell 3 rfl
  have d4 := HF.out.rcell 4 rfl
  refine bodyPost_ret (v := .agg #[.int .i64 2, .int .i64 (place l E p), .int .i64 0, .string nm, .slice none 0 0]) (by simp [results, d0, d1, d2, d3, d4, go_sem]) rfl (.mk HEQ.out HF.out.grew HF.out.1 hns (Sl.nil_ _ _))
 ·have hsz : 0 < (tx l p f).size := Nat.pos_of_ne_zero fun e => h5 (by
   have e2 : (tx l p f).data.size = 0 := e
   have e3 := Array.eq_empty_of_size_eq_zero e2
   generalize tx l p f = u at *
   cases u
   exact congrArg ByteArray.mk e3)
  have eem : ((tx l p f).toList == []) = false := lit_false h5
  rw [bt_in hsz] at h6
  have hb0 : (tx l p f)[0].toNat < 256 := (tx l p f)[0].toNat_lt
  have HDG := Hi_ (fun W => isDigit_any (tx l p f)[0].toNat hb0 W)
  rw [h6] at HDG
  clear h5 h6
  go_wp2_with fail
  refine (HDG.out _).mono ?_
  rintro r w3' ⟨rfl, rfl⟩
  obtain ⟨z3, fz3⟩ := HS.out.rd
  have c0 := HS.out.cell 0 rfl
  have c1 := HS.out.cell 1 rfl
  have c2 := HS.out.cell 2 rfl
  have c3 := HS.out.cell 3 rfl
  have c4 := HS.out.cell 4 rfl
  have g0 := HS.out.frozen 0
  have g1 := HS.out.frozen 1
  have g2 := HS.out.frozen 2
  have g3 := HS.out.frozen 3
  have g4 := HS.out.frozen 4
  go_upto_region 4 with fail
  replace HS := Hi_ ((HS.out.put 0 (.int .i64 2)).to (cs' := #[.int .i64 2, .int .i64 (place l E p), .int .i64 0, .string ⟨#[]⟩, .slice none 0 0]) rfl)
  generalize HW8 : World.setCell _ _ _ = W3 at *
  clear HW8
  clear z3 fz3 c0 c1 c2 c3 c4 g0 g1 g2 g3 g4
  go_wp2_with fail
  refine (HNA.out _ (p, f) (HS.out.bel h0 hg) hp HS.out.1).mono ?_
  rintro r w4 ⟨rfl, hr4, hg4⟩
  replace HS := Hi_ (HS.out.grown hg4 hr4)
  clear hg4 hr4
  generalize nameD l (p, f) = m at *
  obtain ⟨nm, q1⟩ := m
  dsimp only at *
  obtain ⟨z3, fz3⟩ := HS.out.rd
  have c0 := HS.out.cell 0 rfl
  have c1 := HS.out.cell 1 rfl
  have c2 := HS.out.cell 2 rfl
  have c3 := HS.out.cell 3 rfl
  have c4 := HS.out.cell 4 rfl
  have g0 := HS.out.frozen 0
  have g1 := HS.out.frozen 1
  have g2 := HS.out.frozen 2
  have g3 := HS.out.frozen 3
  have g4 := HS.out.frozen 4
  go_upto_region 5 with fail
  replace HS := Hi_ ((HS.out.put 3 (.string nm)).to (cs' := #[.int .i64 2, .int .i64 (place l E p), .int .i64 0, .string nm, .slice none 0 0]) rfl)
  generalize w4.setCell ⟨Q, 3, none⟩ (.string nm) = W4 at *
  clear z3 fz3 c0 c1 c2 c3 c4 g0 g1 g2 g3 g4
  go_wp2_with fail
  refine (HTX.out _ q1 (HS.out.bel h0 hg) hp1 HS.out.1).mono ?_
  rintro r w5 ⟨rfl, hb⟩
  replace HS := Hi_ (HS.out.keep hb)
  clear hb
  obtain ⟨z3, fz3⟩ := HS.out.rd
  have c0 := HS.out.cell 0 rfl
  have c1 := HS.out.cell 1 rfl
  have c2 := HS.out.cell 2 rfl
  have c3 := HS.out.cell 3 rfl
  have c4 := HS.out.cell 4 rfl
  have g0 := HS.out.frozen 0
  have g1 := HS.out.frozen 1
  have g2 := HS.out.frozen 2
  have g3 := HS.out.frozen 3
  have g4 := HS.out.frozen 4
  have r0 := HS.out.rcell 0 rfl
  have r1 := HS.out.rcell 1 rfl
  have r2 := HS.out.rcell 2 rfl
  have r3 := HS.out.rcell 3 rfl
  have r4 := HS.out.rcell 4 rfl
  have f0 := HS.out.rfrozen 0
  have f1 := HS.out.rfrozen 1
  have f2 := HS.out.rfrozen 2
  have f3 := HS.out.rfrozen 3
  have f4 := HS.out.rfrozen 4
  go_wp2
  have HF := Hi_ (((((HS.out.res 0 (.int .i64 2)).res 1 (.int .i64 (place l E p))).res 2 (.int .i64 0)).res 3 (.string nm)).res 4 (.slice none 0 0))
  have d0 := HF.out.rcell 0 rfl
  have d1 := HF.out.rcell 1 rfl
  have d2 := HF.out.rcell 2 rfl
  have d3 := HF.out.rcell 3 rfl
  have d4 := HF.out.rcell 4 rfl
  refine bodyPost_ret (v := .agg #[.int .i64 2, .int .i64 (place l E p), .int .i64 0, .string nm, .slice none 0 0]) (by simp [results, d0, d1, d2, d3, d4, go_sem]) rfl (.mk HEQ.out HF.out.grew HF.out.1 hns (Sl.nil_ _ _))
set_option maxRecDepth 20000 in
set_option maxHeartbeats 4000000 in
theorem expr_celldeep (l : List Tok) (lv : Value) (E g : Nat) (D : Int) (p : Nat) (f : Bool) (w0 w : World) (hl : Sl tokR w0 lv l) (hn : l.length ≤ 6000) (hok : ∀ t ∈ l, TokOk t) (hm : ∀ t ∈ l, t.text.size ≤ maxLen) (hg : w0.heap.size ≤ g) (hp : p ≤ l.length) (h0 : Bel w0 w) (h : Rd w g lv p E f)
  (h1 : tx l p f ≠ lparB) (h2 : tx l p f ≠ dashB) (h3 : digD (tx l p f) = false) (h4 : tx l (nameD l (p, f)).2.1 (nameD l (p, f)).2.2 = lsqB) (hD : (D == 60) = true) :
  Calls Tryz.prog 58 #[.pointer (some ⟨g, 0, none⟩), .int .i64 D] w fun r w' => ExprRes w g lv E (exprD l E 0 (p, f)) r w' := by
 have HHE := Hi_ (here_any l lv p E g f (w.alloc (.cells #[.int .i64 0, .int .i64 0, .int .i64 0, .string ⟨#[]⟩, .slice none 0 0] 49)) ((hl.keep h0).keep ((Bel.rfl_ w).al _)) hn (h.keep ((Bel.rfl_ w).al _)))
 have HTX := Hi_ (jTX (g := g) (E := E) hl hn)
 have HND := Hi_ (jND (g := g) (E := E) hl hn)
 have HNA := Hi_ (jNA (g := g) (E := E) hl hn hm)
 have HNU := Hi_ (jNU (g := g) (E := E) hl hn hok)
 have e40 : ((tx l p f).toList == [40]) = false := lit_false h1
 have e45 : ((tx l p f).toList == [45]) = false := lit_false h2
 have hns : (nameD l (p, f)).1.size ≤ maxLen := by
  unfold nameD
  split
  ·exact tok_max hm
  ·exact Nat.zero_le _
 have hp1 := nameD_le (q := (p, f)) hp
 have HEQ := Hi_ (exprD_celldeep (E := E) h1 h2 h3 h4)
 have e91 : ((tx l (nameD l (p, f)).2.1 (nameD l (p, f)).2.2).toList == [91]) = true := lit_true h4
 have h5 : tx l p f = emp ∨ (tx l p f ≠ emp ∧ isD (bt (tx l p f) 0) = false) := by
  unfold digD at h3
  by_cases he : tx l p f = emp
  ·exact Or.inl he
  ·exact Or.inr ⟨he, by simpa [he] using h3⟩
 clear h1 h2 h3 h4
 go_enter Tryz.func58, Tryz.ntmps58
 go_wp2_with fail
 refine HHE.out.mono ?_
 rintro r w1 ⟨rfl, hb⟩
 have HS := Hi_ (Bld.start (r := (p, f)) h 49 #[.int .i64 0, .int .i64 0, .int .i64 0, .string ⟨#[]⟩, .slice none 0 0] #[.int .i64 1, .int .i64 (place l E p), .int .i64 0, .string ⟨#[]⟩, .slice none 0 0] hb)
 clear hb HHE h
 go_upto_region 2 with fail
 generalize w1.alloc (.cells #[.int .i64 1, .int .i64 (place l E p), .int .i64 0, .string ⟨#[]⟩, .slice none 0 0] 49) = W2 at *
 generalize w1.heap.size = Q at *
 go_wp2_with fail
 refine (HTX.out _ (p, f) (HS.out.bel h0 hg) hp HS.out.1).mono ?_
 rintro r w2 ⟨rfl, hb⟩
 replace HS := Hi_ (HS.out.keep hb)
 clear hb
 rcases h5 with h5 | ⟨h5, h6⟩
 ·have eem : ((tx l p f).toList == []) = true := lit_true h5
  clear h5
  obtain ⟨z3, fz3⟩ := HS.out.rd
  have c0 := HS.out.cell 0 rfl
  have c1 := HS.out.cell 1 rfl
  have c2 := HS.out.cell 2 rfl
  have c3 := HS.out.cell 3 rfl
  have c4 := HS.out.cell 4 rfl
  have g0 := HS.out.frozen 0
  have g1 := HS.out.frozen 1
  have g2 := HS.out.frozen 2
  have g3 := HS.out.frozen 3
  have g4 := HS.out.frozen 4
  go_upto_region 4 with fail
  replace HS := Hi_ ((HS.out.put 0 (.int .i64 2)).to (cs' := #[.int .i64 2, .int .i64 (place l E p), .int .i64 0, .string ⟨#[]⟩, .slice none 0 0]) rfl)
  generalize HW8 : World.setCell _ _ _ = W3 at *
  clear HW8
  clear z3 fz3 c0 c1 c2 c3 c4 g0 g1 g2 g3 g4
  go_wp2_with fail
  refine (HNA.out _ (p, f) (HS.out.bel h0 hg) hp HS.out.1).mono ?_
  rintro r w4 ⟨rfl, hr4, hg4⟩
  replace HS := Hi_ (HS.out.grown hg4 hr4)
  clear hg4 hr4
  generalize nameD l (p, f) = m at *
  obtain ⟨nm, q1⟩ := m
  dsimp only at *
  obtain ⟨z3, fz3⟩ := HS.out.rd
  have c0 := HS.out.cell 0 rfl
  have c1 := HS.out.cell 1 rfl
  have c2 := HS.out.cell 2 rfl
  have c3 := HS.out.cell 3 rfl
  have c4 := HS.out.cell 4 rfl
  have g0 := HS.out.frozen 0
  have g1 := HS.out.frozen 1
  have g2 := HS.out.frozen 2
  have g3 := HS.out.frozen 3
  have g4 := HS.out.frozen 4
  go_upto_region 5 with fail
  replace HS := Hi_ ((HS.out.put 3 (.string nm)).to (cs' := #[.int .i64 2, .int .i64 (place l E p), .int .i64 0, .string nm, .slice none 0 0]) rfl)
  generalize w4.setCell ⟨Q, 3, none⟩ (.string nm) = W4 at *
  clear z3 fz3 c0 c1 c2 c3 c4 g0 g1 g2 g3 g4
  go_wp2_with fail
  refine (HTX.out _ q1 (HS.out.bel h0 hg) hp1 HS.out.1).mono ?_
  rintro r w5 ⟨rfl, hb⟩
  replace HS := Hi_ (HS.out.keep hb)
  clear hb
  obtain ⟨z3, fz3⟩ := HS.out.rd
  have c0 := HS.out.cell 0 rfl
  have c1 := HS.out.cell 1 rfl
  have c2 := HS.out.cell 2 rfl
  have c3 := HS.out.cell 3 rfl
  have c4 := HS.out.cell 4 rfl
  have g0 := HS.out.frozen 0
  have g1 := HS.out.frozen 1
  have g2 := HS.out.frozen 2
  have g3 := HS.out.frozen 3
  have g4 := HS.out.frozen 4
  go_upto_region 8 with fail
  replace HS := Hi_ HS.out.bad
  generalize HW9 : World.setCell _ _ _ = W5 at *
  clear HW9
  clear z3 fz3 c0 c1 c2 c3 c4 g0 g1 g2 g3 g4
  obtain ⟨z3, fz3⟩ := HS.out.rd
  have c0 := HS.out.cell 0 rfl
  have c1 := HS.out.cell 1 rfl
  have c2 := HS.out.cell 2 rfl
  have c3 := HS.out.cell 3 rfl
  have c4 := HS.out.cell 4 rfl
  have g0 := HS.out.frozen 0
  have g1 := HS.out.frozen 1
  have g2 := HS.out.frozen 2
  have g3 := HS.out.frozen 3
  have g4 := HS.out.frozen 4
  have r0 := HS.out.rcell 0 rfl
  have r1 := HS.out.rcell 1 rfl
  have r2 := HS.out.rcell 2 rfl
  have r3 := HS.out.rcell 3 rfl
  have r4 := HS.out.rcell 4 rfl
  have f0 := HS.out.rfrozen 0
  have f1 := HS.out.rfrozen 1
  have f2 := HS.out.rfrozen 2
  have f3 := HS.out.rfrozen 3
  have f4 := HS.out.rfrozen 4
  go_wp2
  have HF := Hi_ (((((HS.out.res 0 (.int .i64 2)).res 1 (.int .i64 (place l E p))).res 2 (.int .i64 0)).res 3 (.string nm)).res 4 (.slice none 0 0))
  have d0 := HF.out.rcell 0 rfl
  have d1 := HF.out.rcell 1 rfl
  have d2 := HF.out.rcell 2 rfl
  have d3 := HF.out.rcell 3 rfl
  have d4 := HF.out.rcell 4 rfl
  refine bodyPost_ret (v := .agg #[.int .i64 2, .int .i64 (place l E p), .int .i64 0, .string nm, .slice none 0 0]) (by simp [results, d0, d1, d2, d3, d4, go_sem]) rfl (.mk HEQ.out HF.out.grew HF.out.1 hns (Sl.nil_ _ _))
 ·have hsz : 0 < (tx l p f).size := Nat.pos_of_ne_zero fun e => h5 (by
   have e2 : (tx l p f).data.size = 0 := e
   have e3 := Array.eq_empty_of_size_eq_zero e2
   generalize tx l p f = u at *
   cases u
   exact congrArg ByteArray.mk e3)
  have eem : ((tx l p f).toList == []) = false := lit_false h5
  rw [bt_in hsz] at h6
  have hb0 : (tx l p f)[0].toNat < 256 := (tx l p f)[0].toNat_lt
  have HDG := Hi_ (fun W => isDigit_any (tx l p f)[0].toNat hb0 W)
  rw [h6] at HDG
  clear h5 h6
  go_wp2_with fail
  refine (HDG.out _).mono ?_
  rintro r w3' ⟨rfl, rfl⟩
  obtain ⟨z3, fz3⟩ := HS.out.rd
  have c0 := HS.out.cell 0 rfl
  have c1 := HS.out.cell 1 rfl
  have c2 := HS.out.cell 2 rfl
  have c3 := HS.out.cell 3 rfl
  have c4 := HS.out.cell 4 rfl
  have g0 := HS.out.frozen 0
  have g1 := HS.out.frozen 1
  have g2 := HS.out.frozen 2
  have g3 := HS.out.frozen 3
  have g4 := HS.out.frozen 4
  go_upto_region 4 with fail
  replace HS := Hi_ ((HS.out.put 0 (.int .i64 2)).to (cs' := #[.int .i64 2, .int .i64 (place l E p), .int .i64 0, .string ⟨#[]⟩, .slice none 0 0]) rfl)
  generalize HW8 : World.setCell _ _ _ = W3 at *
  clear HW8
  clear z3 fz3 c0 c1 c2 c3 c4 g0 g1 g2 g3 g4
  go_wp2_with fail
  refine (HNA.out _ (p, f) (HS.out.bel h0 hg) hp HS.out.1).mono ?_
  rintro r w4 ⟨rfl, hr4, hg4⟩
  replace HS := Hi_ (HS.out.grown hg4 hr4)
  clear hg4 hr4
  generalize nameD l (p, f) = m at *
  obtain ⟨nm, q1⟩ := m
  dsimp only at *
  obtain ⟨z3, fz3⟩ := HS.out.rd
  have c0 := HS.out.cell 0 rfl
  have c1 := HS.out.cell 1 rfl
  have c2 := HS.out.cell 2 rfl
  have c3 := HS.out.cell 3 rfl
  have c4 := HS.out.cell 4 rfl
  have g0 := HS.out.frozen 0
  have g1 := HS.out.frozen 1
  have g2 := HS.out.frozen 2
  have g3 := HS.out.frozen 3
  have g4 := HS.out.frozen 4
  go_upto_region 5 with fail
  replace HS := Hi_ ((HS.out.put 3 (.string nm)).to (cs' := #[.int .i64 2, .int .i64 (place l E p), .int .i64 0, .string nm, .slice none 0 0]) rfl)
  generalize w4.setCell ⟨Q, 3, none⟩ (.string nm) = W4 at *
  clear z3 fz3 c0 c1 c2 c3 c4 g0 g1 g2 g3 g4
  go_wp2_with fail
  refine (HTX.out _ q1 (HS.out.bel h0 hg) hp1 HS.out.1).mono ?_
  rintro r w5 ⟨rfl, hb⟩
  replace HS := Hi_ (HS.out.keep hb)
  clear hb
  obtain ⟨z3, fz3⟩ := HS.out.rd
  have c0 := HS.out.cell 0 rfl
  have c1 := HS.out.cell 1 rfl
  have c2 := HS.out.cell 2 rfl
  have c3 := HS.out.cell 3 rfl
  have c4 := HS.out.cell 4 rfl
  have g0 := HS.out.frozen 0
  have g1 := HS.out.frozen 1
  have g2 := HS.out.frozen 2
  have g3 := HS.out.frozen 3
  have g4 := HS.out.frozen 4
  go_upto_region 8 with fail
  replace HS := Hi_ HS.out.bad
  generalize HW9 : World.setCell _ _ _ = W5 at *
  clear HW9
  clear z3 fz3 c0 c1 c2 c3 c4 g0 g1 g2 g3 g4
  obtain ⟨z3, fz3⟩ := HS.out.rd
  have c0 := HS.out.cell 0 rfl
  have c1 := HS.out.cell 1 rfl
  have c2 := HS.out.cell 2 rfl
  have c3 := HS.out.cell 3 rfl
  have c4 := HS.out.cell 4 rfl
  have g0 := HS.out.frozen 0
  have g1 := HS.out.frozen 1
  have g2 := HS.out.frozen 2
  have g3 := HS.out.frozen 3
  have g4 := HS.out.frozen 4
  have r0 := HS.out.rcell 0 rfl
  have r1 := HS.out.rcell 1 rfl
  have r2 := HS.out.rcell 2 rfl
  have r3 := HS.out.rcell 3 rfl
  have r4 := HS.out.rcell 4 rfl
  have f0 := HS.out.rfrozen 0
  have f1 := HS.out.rfrozen 1
  have f2 := HS.out.rfrozen 2
  have f3 := HS.out.rfrozen 3
  have f4 := HS.out.rfrozen 4
  go_wp2
  have HF := Hi_ (((((HS.out.res 0 (.int .i64 2)).res 1 (.int .i64 (place l E p))).res 2 (.int .i64 0)).res 3 (.string nm)).res 4 (.slice none 0 0))
  have d0 := HF.out.rcell 0 rfl
  have d1 := HF.out.rcell 1 rfl
  have d2 := HF.out.rcell 2 rfl
  have d3 := HF.out.rcell 3 rfl
  have d4 := HF.out.rcell 4 rfl
  refine bodyPost_ret (v := .agg #[.int .i64 2, .int .i64 (place l E p), .int .i64 0, .string nm, .slice none 0 0]) (by simp [results, d0, d1, d2, d3, d4, go_sem]) rfl (.mk HEQ.out HF.out.grew HF.out.1 hns (Sl.nil_ _ _))
end Go.Proofs.YtmfjlcpjemccmaaGreatDoor
