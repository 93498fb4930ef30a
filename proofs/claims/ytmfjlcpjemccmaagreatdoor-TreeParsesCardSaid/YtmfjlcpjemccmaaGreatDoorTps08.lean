/- The document's reader of an array's cell: walked. Each lemma states its own conditions. -/
import Derived.Test.YtmfjlcpjemccmaaGreatDoorTps07
namespace Go.Proofs.YtmfjlcpjemccmaaGreatDoor
open Go.RowKit
set_option maxRecDepth 20000 in
set_option maxHeartbeats 4000000 in
theorem expr_cell (l : List Tok) (lv : Value) (E g d : Nat) (D : Int) (p : Nat) (f : Bool) (w0 w : World) (hl : Sl tokR w0 lv l) (hn : l.length ≤ 6000) (hok : ∀ t ∈ l, TokOk t) (hm : ∀ t ∈ l, t.text.size ≤ maxLen) (hg : w0.heap.size ≤ g) (hp : p ≤ l.length) (h0 : Bel w0 w) (h : Rd w g lv p E f)
  (h1 : tx l p f ≠ lparB) (h2 : tx l p f ≠ dashB) (h3 : digD (tx l p f) = false) (h4 : tx l (nameD l (p, f)).2.1 (nameD l (p, f)).2.2 = lsqB)
  (hD : 0 ≤ D ∧ D < 60) (hrec : ∀ q W, q.1 ≤ l.length → Bel w0 W → Rd W g lv q.1 E q.2 → Calls Tryz.prog 58 #[.pointer (some ⟨g, 0, none⟩), .int .i64 (D + 1)] W fun r w' => ExprRes W g lv E (exprD l E d q) r w') :
  Calls Tryz.prog 58 #[.pointer (some ⟨g, 0, none⟩), .int .i64 D] w fun r w' => ExprRes w g lv E (exprD l E (d + 1) (p, f)) r w' := by
 have HHE := Hi_ (here_any l lv p E g f (w.alloc (.cells #[.int .i64 0, .int .i64 0, .int .i64 0, .string ⟨#[]⟩, .slice none 0 0] 49)) ((hl.keep h0).keep ((Bel.rfl_ w).al _)) hn (h.keep ((Bel.rfl_ w).al _)))
 have HTX := Hi_ (jTX (g := g) (E := E) hl hn)
 have HND := Hi_ (jND (g := g) (E := E) hl hn)
 have HNA := Hi_ (jNA (g := g) (E := E) hl hn hm)
 have HNU := Hi_ (jNU (g := g) (E := E) hl hn hok)
 have e40 : ((tx l p f).toList == [40]) = false := lit_false h1
 have e45 : ((tx l p f).toList == [45]) = false := lit_false h2
 have hns : (nameD l (p, f)).1.size ≤ maxLen := by
  unfold nameD
  split
  ·exact tok_max hm
  ·exact Nat.zero_le _
 have hp1 := nameD_le (q := (p, f)) hp
 have HEQ := Hi_ (exprD_cell (E := E) (d := d) h1 h2 h3 h4)
 have e91 : ((tx l (nameD l (p, f)).2.1 (nameD l (p, f)).2.2).toList == [91]) = true := lit_true h4
 have h5 : tx l p f = emp ∨ (tx l p f ≠ emp ∧ isD (bt (tx l p f) 0) = false) := by
  unfold digD at h3
  by_cases he : tx l p f = emp
  ·exact Or.inl he
  ·exact Or.inr ⟨he, by simpa [he] using h3⟩
 clear h1 h2 h3 h4
 have HREC := Hi_ (fun W (q : RS) (hb : Bel w0 W) (hq : q.1 ≤ l.length) (h : Rd W g lv q.1 E q.2) => hrec q W hq hb h)
 have hdD : (D == 60) = false := by simp; omega
 clear hrec
 have hp2 := needD_le (l := l) (s := lsqB) (q := (nameD l (p, f)).2) (by decide) hp1
 have hp3 := exprD_le (E := E) hok d _ hp2
 go_enter Tryz.func58, Tryz.ntmps58
 go_wp2_with fail
 refine HHE.out.mono ?_
 rintro r w1 ⟨rfl, hb⟩
 have HS := Hi_ (Bld.start (r := (p, f)) h 49 #[.int .i64 0, .int .i64 0, .int .i64 0, .string ⟨#[]⟩, .slice none 0 0] #[.int .i64 1, .int .i64 (place l E p), .int .i64 0, .string ⟨#[]⟩, .slice none 0 0] hb)
 clear hb HHE h
 go_upto_region 2 with fail
 generalize w1.alloc (.cells #[.int .i64 1, .int .i64 (place l E p), .int .i64 0, .string ⟨#[]⟩, .slice none 0 0] 49) = W2 at *
 generalize w1.heap.size = Q at *
 go_wp2_with fail
 refine (HTX.out _ (p, f) (HS.out.bel h0 hg) hp HS.out.1).mono ?_
 rintro r w2 ⟨rfl, hb⟩
 replace HS := Hi_ (HS.out.keep hb)
 clear hb
 rcases h5 with h5 | ⟨h5, h6⟩
 ·have eem : ((tx l p f).toList == []) = true := lit_true h5
  clear h5
  obtain ⟨z3, fz3⟩ := HS.out.rd
  have c0 := HS.out.cell 0 rfl
  have c1 := HS.out.cell 1 rfl
  have c2 := HS.out.cell 2 rfl
  have c3 := HS.out.cell 3 rfl
  have c4 := HS.out.cell 4 rfl
  have g0 := HS.out.frozen 0
  have g1 := HS.out.frozen 1
  have g2 := HS.out.frozen 2
  have g3 := HS.out.frozen 3
  have g4 := HS.out.frozen 4
  go_upto_region 4 with fail
  replace HS := Hi_ ((HS.out.put 0 (.int .i64 2)).to (cs' := #[.int .i64 2, .int .i64 (place l E p), .int .i64 0, .string ⟨#[]⟩, .slice none 0 0]) rfl)
  generalize HW8 : World.setCell _ _ _ = W3 at *
  clear HW8
  clear z3 fz3 c0 c1 c2 c3 c4 g0 g1 g2 g3 g4
  go_wp2_with fail
  refine (HNA.out _ (p, f) (HS.out.bel h0 hg) hp HS.out.1).mono ?_
  rintro r w4 ⟨rfl, hr4, hg4⟩
  replace HS := Hi_ (HS.out.grown hg4 hr4)
  clear hg4 hr4
  generalize nameD l (p, f) = m at *
  obtain ⟨nm, q1⟩ := m
  dsimp only at *
  obtain ⟨z3, fz3⟩ := HS.out.rd
  have c0 := HS.out.cell 0 rfl
  have c1 := HS.out.cell 1 rfl
  have c2 := HS.out.cell 2 rfl
  have c3 := HS.out.cell 3 rfl
  have c4 := HS.out.cell 4 rfl
  have g0 := HS.out.frozen 0
  have g1 := HS.out.frozen 1
  have g2 := HS.out.frozen 2
  have g3 := HS.out.frozen 3
  have g4 := HS.out.frozen 4
  go_upto_region 5 with fail
  replace HS := Hi_ ((HS.out.put 3 (.string nm)).to (cs' := #[.int .i64 2, .int .i64 (place l E p), .int .i64 0, .string nm, .slice none 0 0]) rfl)
  generalize w4.setCell ⟨Q, 3, none⟩ (.string nm) = W4 at *
  clear z3 fz3 c0 c1 c2 c3 c4 g0 g1 g2 g3 g4
  go_wp2_with fail
  refine (HTX.out _ q1 (HS.out.bel h0 hg) hp1 HS.out.1).mono ?_
  rintro r w5 ⟨rfl, hb⟩
  replace HS := Hi_ (HS.out.keep hb)
  clear hb
  obtain ⟨z3, fz3⟩ := HS.out.rd
  have c0 := HS.out.cell 0 rfl
  have c1 := HS.out.cell 1 rfl
  have c2 := HS.out.cell 2 rfl
  have c3 := HS.out.cell 3 rfl
  have c4 := HS.out.cell 4 rfl
  have g0 := HS.out.frozen 0
  have g1 := HS.out.frozen 1
  have g2 := HS.out.frozen 2
  have g3 := HS.out.frozen 3
  have g4 := HS.out.frozen 4
  go_upto_region 10 with fail
  replace HS := Hi_ ((HS.out.put 0 (.int .i64 3)).to (cs' := #[.int .i64 3, .int .i64 (place l E p), .int .i64 0, .string nm, .slice none 0 0]) rfl)
  generalize HW7 : World.setCell _ _ _ = W5 at *
  clear HW7
  clear z3 fz3 c0 c1 c2 c3 c4 g0 g1 g2 g3 g4
  go_wp2_with fail
  refine (HND.out _ q1 ⟨#[91]⟩ (HS.out.bel h0 hg) hp1 HS.out.1).mono ?_
  rintro r w6 ⟨⟨v6, rfl⟩, hr6, hg6⟩
  replace HS := Hi_ (HS.out.grown (r' := needD l lsqB q1) hg6 hr6)
  clear hg6 hr6
  go_wp2_with fail
  refine (HREC.out _ (needD l lsqB q1) (HS.out.bel h0 hg) hp2 HS.out.1).mono ?_
  rintro r w7 ⟨hg7, hr7, A7, c7, rfl, hs7, hsl7⟩
  generalize exprD l E d (needD l lsqB q1) = xa at *
  obtain ⟨a, qa⟩ := xa
  dsimp only at *
  have hba := (Bel.rfl_ w7).al (.cells #[.int .i64 a.kind, .int .i64 a.at_, .int .i64 a.n, .string a.name, .slice A7 a.args.length c7] 49)
  have HAG : Hid (Q + 1 ≤ w7.heap.size) := Hi_ (Nat.le_trans HS.out.size hg7.size)
  have HA := Hi_ ((low_mono (B' := Q + 1) teR_more HS.out.size hsl7).keep (low_belB hba))
  have HAB := Hi_ (low_blk (B := Q + 1) (Blk.new w7 49 #[.int .i64 a.kind, .int .i64 a.at_, .int .i64 a.n, .string a.name, .slice A7 a.args.length c7]) HAG.out)
  replace HS := Hi_ ((HS.out.grown hg7 hr7).keep hba)
  clear hg7 hr7 hsl7 hba HREC
  go_upto_region 12 with fail
  generalize w7.alloc (.cells #[.int .i64 a.kind, .int .i64 a.at_, .int .i64 a.n, .string a.name, .slice A7 a.args.length c7] 49) = W7 at *
  generalize w7.heap.size = GA at *
  go_wp2_with fail
  refine (HND.out _ qa ⟨#[93]⟩ (HS.out.bel h0 hg) hp3 HS.out.1).mono ?_
  rintro r w8 ⟨⟨v8, rfl⟩, hr8, hg8⟩
  have hgl := HS.out.lt
  replace HA := Hi_ (HA.out.keep (low_grown hg8 (by omega)))
  replace HAB := Hi_ (HAB.out.keep (low_grown hg8 (by omega)))
  replace HS := Hi_ (HS.out.grown (r' := needD l rsqB qa) hg8 hr8)
  clear hg8 hr8
  have x0 := (low_unb HAB.out HAG.out).cell (i := 0) (v := .int .i64 a.kind) rfl
  have x1 := (low_unb HAB.out HAG.out).cell (i := 1) (v := .int .i64 a.at_) rfl
  have x2 := (low_unb HAB.out HAG.out).cell (i := 2) (v := .int .i64 a.n) rfl
  have x3 := (low_unb HAB.out HAG.out).cell (i := 3) (v := .string a.name) rfl
  have x4 := (low_unb HAB.out HAG.out).cell (i := 4) (v := .slice A7 a.args.length c7) rfl
  have hb9 := (Bel.rfl_ w8).al (.cells #[.int .i64 a.kind, .int .i64 a.at_, .int .i64 a.n, .string a.name, .slice A7 a.args.length c7] 49)
  have HQG : Hid (Q + 1 ≤ w8.heap.size) := Hi_ HS.out.size
  have HQN := Hi_ (low_blk (B := Q + 1) (Blk.new w8 49 #[.int .i64 a.kind, .int .i64 a.at_, .int .i64 a.n, .string a.name, .slice A7 a.args.length c7]) HQG.out)
  replace HS := Hi_ (HS.out.keep hb9)
  replace HA := Hi_ (HA.out.keep (low_belB hb9))
  clear hb9 HAB
  obtain ⟨z3, fz3⟩ := HS.out.rd
  have c0 := HS.out.cell 0 rfl
  have c1 := HS.out.cell 1 rfl
  have c2 := HS.out.cell 2 rfl
  have c3 := HS.out.cell 3 rfl
  have c4 := HS.out.cell 4 rfl
  have g0 := HS.out.frozen 0
  have g1 := HS.out.frozen 1
  have g2 := HS.out.frozen 2
  have g3 := HS.out.frozen 3
  have g4 := HS.out.frozen 4
  go_upto_region 40 with fail
  clear x0 x1 x2 x3 x4
  generalize w8.alloc (.cells #[.int .i64 a.kind, .int .i64 a.at_, .int .i64 a.n, .string a.name, .slice A7 a.args.length c7] 49) = W8 at *
  generalize w8.heap.size = GQ at *
  have hlow := low_set (B := Q + 1) W8 (g := Q) (i := 4) (.slice (some ⟨GQ, 0, none⟩) 1 1) (by omega)
  replace HQN := Hi_ (HQN.out.keep hlow)
  replace HA := Hi_ (HA.out.keep hlow)
  replace HS := Hi_ (((HS.out.put 4 (.slice (some ⟨GQ, 0, none⟩) 1 1)).to (cs' := #[.int .i64 3, .int .i64 (place l E p), .int .i64 0, .string nm, .slice (some ⟨GQ, 0, none⟩) 1 1]) rfl).fresh)
  generalize W8.setCell ⟨Q, 4, none⟩ (.slice (some ⟨GQ, 0, none⟩) 1 1) = W9 at *
  clear hlow
  clear z3 fz3 c0 c1 c2 c3 c4 g0 g1 g2 g3 g4
  obtain ⟨z3, fz3⟩ := HS.out.rd
  have c0 := HS.out.cell 0 rfl
  have c1 := HS.out.cell 1 rfl
  have c2 := HS.out.cell 2 rfl
  have c3 := HS.out.cell 3 rfl
  have c4 := HS.out.cell 4 rfl
  have g0 := HS.out.frozen 0
  have g1 := HS.out.frozen 1
  have g2 := HS.out.frozen 2
  have g3 := HS.out.frozen 3
  have g4 := HS.out.frozen 4
  have r0 := HS.out.rcell 0 rfl
  have r1 := HS.out.rcell 1 rfl
  have r2 := HS.out.rcell 2 rfl
  have r3 := HS.out.rcell 3 rfl
  have r4 := HS.out.rcell 4 rfl
  have f0 := HS.out.rfrozen 0
  have f1 := HS.out.rfrozen 1
  have f2 := HS.out.rfrozen 2
  have f3 := HS.out.rfrozen 3
  have f4 := HS.out.rfrozen 4
  go_wp2
  have HF := Hi_ (((((HS.out.res 0 (.int .i64 3)).res 1 (.int .i64 (place l E p))).res 2 (.int .i64 0)).res 3 (.string nm)).res 4 (.slice (some ⟨GQ, 0, none⟩) 1 1))
  have d0 := HF.out.rcell 0 rfl
  have d1 := HF.out.rcell 1 rfl
  have d2 := HF.out.rcell 2 rfl
  have d3 := HF.out.rcell 3 rfl
  have d4 := HF.out.rcell 4 rfl
  refine bodyPost_ret (v := .agg #[.int .i64 3, .int .i64 (place l E p), .int .i64 0, .string nm, .slice (some ⟨GQ, 0, none⟩) 1 1]) (by simp [results, d0, d1, d2, d3, d4, go_sem]) rfl (.mk (args := [a]) HEQ.out HF.out.grew HF.out.1 hns (low_mono teR_more (by omega) (te_one (a := a) (low_unb (HQN.out.keep HF.out.low_) HQG.out) HQG.out hs7 (HA.out.keep HF.out.low_))))
 ·have hsz : 0 < (tx l p f).size := Nat.pos_of_ne_zero fun e => h5 (by
   have e2 : (tx l p f).data.size = 0 := e
   have e3 := Array.eq_empty_of_size_eq_zero e2
   generalize tx l p f = u at *
   cases u
   exact congrArg ByteArray.mk e3)
  have eem : ((tx l p f).toList == []) = false := lit_false h5
  rw [bt_in hsz] at h6
  have hb0 : (tx l p f)[0].toNat < 256 := (tx l p f)[0].toNat_lt
  have HDG := Hi_ (fun W => isDigit_any (tx l p f)[0].toNat hb0 W)
  rw [h6] at HDG
  clear h5 h6
  go_wp2_with fail
  refine (HDG.out _).mono ?_
  rintro r w3' ⟨rfl, rfl⟩
  obtain ⟨z3, fz3⟩ := HS.out.rd
  have c0 := HS.out.cell 0 rfl
  have c1 := HS.out.cell 1 rfl
  have c2 := HS.out.cell 2 rfl
  have c3 := HS.out.cell 3 rfl
  have c4 := HS.out.cell 4 rfl
  have g0 := HS.out.frozen 0
  have g1 := HS.out.frozen 1
  have g2 := HS.out.frozen 2
  have g3 := HS.out.frozen 3
  have g4 := HS.out.frozen 4
  go_upto_region 4 with fail
  replace HS := Hi_ ((HS.out.put 0 (.int .i64 2)).to (cs' := #[.int .i64 2, .int .i64 (place l E p), .int .i64 0, .string ⟨#[]⟩, .slice none 0 0]) rfl)
  generalize HW8 : World.setCell _ _ _ = W3 at *
  clear HW8
  clear z3 fz3 c0 c1 c2 c3 c4 g0 g1 g2 g3 g4
  go_wp2_with fail
  refine (HNA.out _ (p, f) (HS.out.bel h0 hg) hp HS.out.1).mono ?_
  rintro r w4 ⟨rfl, hr4, hg4⟩
  replace HS := Hi_ (HS.out.grown hg4 hr4)
  clear hg4 hr4
  generalize nameD l (p, f) = m at *
  obtain ⟨nm, q1⟩ := m
  dsimp only at *
  obtain ⟨z3, fz3⟩ := HS.out.rd
  have c0 := HS.out.cell 0 rfl
  have c1 := HS.out.cell 1 rfl
  have c2 := HS.out.cell 2 rfl
  have c3 := HS.out.cell 3 rfl
  have c4 := HS.out.cell 4 rfl
  have g0 := HS.out.frozen 0
  have g1 := HS.out.frozen 1
  have g2 := HS.out.frozen 2
  have g3 := HS.out.frozen 3
  have g4 := HS.out.frozen 4
  go_upto_region 5 with fail
  replace HS := Hi_ ((HS.out.put 3 (.string nm)).to (cs' := #[.int .i64 2, .int .i64 (place l E p), .int .i64 0, .string nm, .slice none 0 0]) rfl)
  generalize w4.setCell ⟨Q, 3, none⟩ (.string nm) = W4 at *
  clear z3 fz3 c0 c1 c2 c3 c4 g0 g1 g2 g3 g4
  go_wp2_with fail
  refine (HTX.out _ q1 (HS.out.bel h0 hg) hp1 HS.out.1).mono ?_
  rintro r w5 ⟨rfl, hb⟩
  replace HS := Hi_ (HS.out.keep hb)
  clear hb
  obtain ⟨z3, fz3⟩ := HS.out.rd
  have c0 := HS.out.cell 0 rfl
  have c1 := HS.out.cell 1 rfl
  have c2 := HS.out.cell 2 rfl
  have c3 := HS.out.cell 3 rfl
  have c4 := HS.out.cell 4 rfl
  have g0 := HS.out.frozen 0
  have g1 := HS.out.frozen 1
  have g2 := HS.out.frozen 2
  have g3 := HS.out.frozen 3
  have g4 := HS.out.frozen 4
  go_upto_region 10 with fail
  replace HS := Hi_ ((HS.out.put 0 (.int .i64 3)).to (cs' := #[.int .i64 3, .int .i64 (place l E p), .int .i64 0, .string nm, .slice none 0 0]) rfl)
  generalize HW7 : World.setCell _ _ _ = W5 at *
  clear HW7
  clear z3 fz3 c0 c1 c2 c3 c4 g0 g1 g2 g3 g4
  go_wp2_with fail
  refine (HND.out _ q1 ⟨#[91]⟩ (HS.out.bel h0 hg) hp1 HS.out.1).mono ?_
  rintro r w6 ⟨⟨v6, rfl⟩, hr6, hg6⟩
  replace HS := Hi_ (HS.out.grown (r' := needD l lsqB q1) hg6 hr6)
  clear hg6 hr6
  go_wp2_with fail
  refine (HREC.out _ (needD l lsqB q1) (HS.out.bel h0 hg) hp2 HS.out.1).mono ?_
  rintro r w7 ⟨hg7, hr7, A7, c7, rfl, hs7, hsl7⟩
  generalize exprD l E d (needD l lsqB q1) = xa at *
  obtain ⟨a, qa⟩ := xa
  dsimp only at *
  have hba := (Bel.rfl_ w7).al (.cells #[.int .i64 a.kind, .int .i64 a.at_, .int .i64 a.n, .string a.name, .slice A7 a.args.length c7] 49)
  have HAG : Hid (Q + 1 ≤ w7.heap.size) := Hi_ (Nat.le_trans HS.out.size hg7.size)
  have HA := Hi_ ((low_mono (B' := Q + 1) teR_more HS.out.size hsl7).keep (low_belB hba))
  have HAB := Hi_ (low_blk (B := Q + 1) (Blk.new w7 49 #[.int .i64 a.kind, .int .i64 a.at_, .int .i64 a.n, .string a.name, .slice A7 a.args.length c7]) HAG.out)
  replace HS := Hi_ ((HS.out.grown hg7 hr7).keep hba)
  clear hg7 hr7 hsl7 hba HREC
  go_upto_region 12 with fail
  generalize w7.alloc (.cells #[.int .i64 a.kind, .int .i64 a.at_, .int .i64 a.n, .string a.name, .slice A7 a.args.length c7] 49) = W7 at *
  generalize w7.heap.size = GA at *
  go_wp2_with fail
  refine (HND.out _ qa ⟨#[93]⟩ (HS.out.bel h0 hg) hp3 HS.out.1).mono ?_
  rintro r w8 ⟨⟨v8, rfl⟩, hr8, hg8⟩
  have hgl := HS.out.lt
  replace HA := Hi_ (HA.out.keep (low_grown hg8 (by omega)))
  replace HAB := Hi_ (HAB.out.keep (low_grown hg8 (by omega)))
  replace HS := Hi_ (HS.out.grown (r' := needD l rsqB qa) hg8 hr8)
  clear hg8 hr8
  have x0 := (low_unb HAB.out HAG.out).cell (i := 0) (v := .int .i64 a.kind) rfl
  have x1 := (low_unb HAB.out HAG.out).cell (i := 1) (v := .int .i64 a.at_) rfl
  have x2 := (low_unb HAB.out HAG.out).cell (i := 2) (v := .int .i64 a.n) rfl
  have x3 := (low_unb HAB.out HAG.out).cell (i := 3) (v := .string a.name) rfl
  have x4 := (low_unb HAB.out HAG.out).cell (i := 4) (v := .slice A7 a.args.length c7) rfl
  have hb9 := (Bel.rfl_ w8).al (.cells #[.int .i64 a.kind, .int .i64 a.at_, .int .i64 a.n, .string a.name, .slice A7 a.args.length c7] 49)
  have HQG : Hid (Q + 1 ≤ w8.heap.size) := Hi_ HS.out.size
  have HQN := Hi_ (low_blk (B := Q + 1) (Blk.new w8 49 #[.int .i64 a.kind, .int .i64 a.at_, .int .i64 a.n, .string a.name, .slice A7 a.args.length c7]) HQG.out)
  replace HS := Hi_ (HS.out.keep hb9)
  replace HA := Hi_ (HA.out.keep (low_belB hb9))
  clear hb9 HAB
  obtain ⟨z3, fz3⟩ := HS.out.rd
  have c0 := HS.out.cell 0 rfl
  have c1 := HS.out.cell 1 rfl
  have c2 := HS.out.cell 2 rfl
  have c3 := HS.out.cell 3 rfl
  have c4 := HS.out.cell 4 rfl
  have g0 := HS.out.frozen 0
  have g1 := HS.out.frozen 1
  have g2 := HS.out.frozen 2
  have g3 := HS.out.frozen 3
  have g4 := HS.out.frozen 4
  go_upto_region 40 with fail
  clear x0 x1 x2 x3 x4
  generalize w8.alloc (.cells #[.int .i64 a.kind, .int .i64 a.at_, .int .i64 a.n, .string a.name, .slice A7 a.args.length c7] 49) = W8 at *
  generalize w8.heap.size = GQ at *
  have hlow := low_set (B := Q + 1) W8 (g := Q) (i := 4) (.slice (some ⟨GQ, 0, none⟩) 1 1) (by omega)
  replace HQN := Hi_ (HQN.out.keep hlow)
  replace HA := Hi_ (HA.out.keep hlow)
  replace HS := Hi_ (((HS.out.put 4 (.slice (some ⟨GQ, 0, none⟩) 1 1)).to (cs' := #[.int .i64 3, .int .i64 (place l E p), .int .i64 0, .string nm, .slice (some ⟨GQ, 0, none⟩) 1 1]) rfl).fresh)
  generalize W8.setCell ⟨Q, 4, none⟩ (.slice (some ⟨GQ, 0, none⟩) 1 1) = W9 at *
  clear hlow
  clear z3 fz3 c0 c1 c2 c3 c4 g0 g1 g2 g3 g4
  obtain ⟨z3, fz3⟩ := HS.out.rd
  have c0 := HS.out.cell 0 rfl
  have c1 := HS.out.cell 1 rfl
  have c2 := HS.out.cell 2 rfl
  have c3 := HS.out.cell 3 rfl
  have c4 := HS.out.cell 4 rfl
  have g0 := HS.out.frozen 0
  have g1 := HS.out.frozen 1
  have g2 := HS.out.frozen 2
  have g3 := HS.out.frozen 3
  have g4 := HS.out.frozen 4
  have r0 := HS.out.rcell 0 rfl
  have r1 := HS.out.rcell 1 rfl
  have r2 := HS.out.rcell 2 rfl
  have r3 := HS.out.rcell 3 rfl
  have r4 := HS.out.rcell 4 rfl
  have f0 := HS.out.rfrozen 0
  have f1 := HS.out.rfrozen 1
  have f2 := HS.out.rfrozen 2
  have f3 := HS.out.rfrozen 3
  have f4 := HS.out.rfrozen 4
  go_wp2
  have HF := Hi_ (((((HS.out.res 0 (.int .i64 3)).res 1 (.int .i64 (place l E p))).res 2 (.int .i64 0)).res 3 (.string nm)).res 4 (.slice (some ⟨GQ, 0, none⟩) 1 1))
  have d0 := HF.out.rcell 0 rfl
  have d1 := HF.out.rcell 1 rfl
  have d2 := HF.out.rcell 2 rfl
  have d3 := HF.out.rcell 3 rfl
  have d4 := HF.out.rcell 4 rfl
  refine bodyPost_ret (v := .agg #[.int .i64 3, .int .i64 (place l E p), .int .i64 0, .string nm, .slice (some ⟨GQ, 0, none⟩) 1 1]) (by simp [results, d0, d1, d2, d3, d4, go_sem]) rfl (.mk (args := [a]) HEQ.out HF.out.grew HF.out.1 hns (low_mono teR_more (by omega) (te_one (a := a) (low_unb (HQN.out.keep HF.out.low_) HQG.out) HQG.out hs7 (HA.out.keep HF.out.low_))))
end Go.Proofs.YtmfjlcpjemccmaaGreatDoor
