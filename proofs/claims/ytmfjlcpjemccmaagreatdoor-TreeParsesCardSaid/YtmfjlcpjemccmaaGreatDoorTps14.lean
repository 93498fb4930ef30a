/- The document's reader of if, while: walked. Each lemma states its own conditions. -/
import Derived.Test.YtmfjlcpjemccmaaGreatDoorTps10
namespace Go.Proofs.YtmfjlcpjemccmaaGreatDoor
open Go.RowKit
set_option maxRecDepth 20000 in
set_option maxHeartbeats 4000000 in
theorem cmd_while (l : List Tok) (lv : Value) (E g : Nat) (blk : RS → List TC × RS) (p : Nat) (w0 w : World) (hl : Sl tokR w0 lv l) (hn : l.length ≤ 6000) (hok : ∀ t ∈ l, TokOk t) (hm : ∀ t ∈ l, t.text.size ≤ maxLen) (hg : w0.heap.size ≤ g) (hp : p ≤ l.length) (h0 : Bel w0 w) (h : Rd w g lv p E false)
  (h1 : tx l p false = whileB) (m : Nat) (hlm : l.length - p < m + 1) (hble : ∀ q, q.1 ≤ l.length → q.1 ≤ (blk q).2.1 ∧ (blk q).2.1 ≤ l.length)
  (hblk : ∀ (q : RS) W, q.1 ≤ l.length → Bel w0 W → Rd W g lv q.1 E q.2 → (q.2 = true ∨ l.length - q.1 < m) → Calls Tryz.prog 146 #[.pointer (some ⟨g, 0, none⟩)] W fun r w' => ListRes tcR W g lv E (blk q) r w') :
  Calls Tryz.prog 94 #[.pointer (some ⟨g, 0, none⟩)] w fun r w' => CmdRes w g lv E (cmdD l E blk (p, false)) r w' := by
 have HHE := Hi_ (here_any l lv p E g false (w.alloc (.cells #[.int .i64 0, .int .i64 0, .string ⟨#[]⟩, .string ⟨#[]⟩, .int .i64 0, .int .i64 0, .int .i64 0, .string ⟨#[]⟩, .slice none 0 0, .int .i64 0, .int .i64 0, .int .i64 0, .string ⟨#[]⟩, .slice none 0 0, .slice none 0 0, .slice none 0 0, .slice none 0 0] 53)) ((hl.keep h0).keep ((Bel.rfl_ w).al _)) hn (h.keep ((Bel.rfl_ w).al _)))
 have HTX := Hi_ (jTX (g := g) (E := E) hl hn)
 have HT1 := Hi_ (jT1 (g := g) (E := E) hl hn)
 have HND := Hi_ (jND (g := g) (E := E) hl hn)
 have HNA := Hi_ (jNA (g := g) (E := E) hl hn hm)
 have HEX := Hi_ (fun W (q : RS) (hb : Bel w0 W) (hq : q.1 ≤ l.length) (h : Rd W g lv q.1 E q.2) => expr_all l lv E g w0 hl hn hok hm hg 60 q 0 W (by omega) (by omega) hq hb h)
 have eP : ((tx l p false).toList == [112, 114, 105, 110, 116]) = false := lit_false (fun e : tx l p false = printB => absurd (h1.symm.trans e) (by decide))
 have eI : ((tx l p false).toList == [105, 102]) = false := lit_false (fun e : tx l p false = ifB => absurd (h1.symm.trans e) (by decide))
 have eW : ((tx l p false).toList == [119, 104, 105, 108, 101]) = true := lit_true h1
 have HBK := Hi_ hblk
 have HEQ := Hi_ (cmdD_while (E := E) (blk := blk) h1)
 have hgo := needD_go (q := (p, false)) rfl (rfl : tx l p false = tx l p false)
 have hp1 := needD_le (l := l) (q := (p, false)) (fun e => absurd (h1.symm.trans e) (by decide)) hp
 have hp2 := exprD_le (E := E) hok 60 _ hp1
 have hp3 := (hble _ hp2).2
 have hfu : (exprD l E 60 (needD l (tx l p false) (p, false))).2.2 = true ∨ l.length - (exprD l E 60 (needD l (tx l p false) (p, false))).2.1 < m := Or.inr (by
  have h4 := exprD_ge (l := l) (E := E) 60 (needD l (tx l p false) (p, false))
  have h5 : (needD l (tx l p false) (p, false)).1 = p + 1 := by rw [hgo]
  omega)
 clear h1 hblk hble hgo hlm
 go_enter Tryz.func94, Tryz.ntmps94
 go_wp2_with fail
 refine HHE.out.mono ?_
 rintro r w1 ⟨rfl, hb⟩
 have HS := Hi_ (Bld.start (r := (p, false)) h 53 #[.int .i64 0, .int .i64 0, .string ⟨#[]⟩, .string ⟨#[]⟩, .int .i64 0, .int .i64 0, .int .i64 0, .string ⟨#[]⟩, .slice none 0 0, .int .i64 0, .int .i64 0, .int .i64 0, .string ⟨#[]⟩, .slice none 0 0, .slice none 0 0, .slice none 0 0, .slice none 0 0] #[.int .i64 0, .int .i64 (place l E p), .string ⟨#[]⟩, .string ⟨#[]⟩, .int .i64 0, .int .i64 0, .int .i64 0, .string ⟨#[]⟩, .slice none 0 0, .int .i64 0, .int .i64 0, .int .i64 0, .string ⟨#[]⟩, .slice none 0 0, .slice none 0 0, .slice none 0 0, .slice none 0 0] hb)
 clear hb HHE h
 go_upto_region 2 with fail
 generalize w1.alloc (.cells #[.int .i64 0, .int .i64 (place l E p), .string ⟨#[]⟩, .string ⟨#[]⟩, .int .i64 0, .int .i64 0, .int .i64 0, .string ⟨#[]⟩, .slice none 0 0, .int .i64 0, .int .i64 0, .int .i64 0, .string ⟨#[]⟩, .slice none 0 0, .slice none 0 0, .slice none 0 0, .slice none 0 0] 53) = W2 at *
 generalize w1.heap.size = Q at *
 go_wp2_with fail
 refine (HTX.out _ (p, false) (HS.out.bel h0 hg) hp HS.out.1).mono ?_
 rintro r w2 ⟨rfl, hb⟩
 replace HS := Hi_ (HS.out.keep hb)
 clear hb
 have c0 := HS.out.cell 0 (v := .int .i64 0) rfl
 have g0 := HS.out.frozen 0
 go_upto_region 36 with fail
 replace HS := Hi_ ((HS.out.put 0 (.int .i64 6)).to (cs' := #[.int .i64 6, .int .i64 (place l E p), .string ⟨#[]⟩, .string ⟨#[]⟩, .int .i64 0, .int .i64 0, .int .i64 0, .string ⟨#[]⟩, .slice none 0 0, .int .i64 0, .int .i64 0, .int .i64 0, .string ⟨#[]⟩, .slice none 0 0, .slice none 0 0, .slice none 0 0, .slice none 0 0]) rfl)
 generalize HW1 : World.setCell _ _ _ = V1 at *
 clear HW1 c0 g0
 have c0 := HS.out.cell 0 (v := .int .i64 6) rfl
 have g0 := HS.out.frozen 0
 go_upto_region 38 with fail
 replace HS := Hi_ ((HS.out.put 0 (.int .i64 7)).to (cs' := #[.int .i64 7, .int .i64 (place l E p), .string ⟨#[]⟩, .string ⟨#[]⟩, .int .i64 0, .int .i64 0, .int .i64 0, .string ⟨#[]⟩, .slice none 0 0, .int .i64 0, .int .i64 0, .int .i64 0, .string ⟨#[]⟩, .slice none 0 0, .slice none 0 0, .slice none 0 0, .slice none 0 0]) rfl)
 generalize HW2 : World.setCell _ _ _ = V2 at *
 clear HW2 c0 g0
 go_wp2_with fail
 refine (HND.out _ (p, false) (tx l p false) (HS.out.bel h0 hg) hp HS.out.1).mono ?_
 rintro r w4 ⟨⟨v4, rfl⟩, hrN, hgN⟩
 replace HS := Hi_ (HS.out.grown (r' := needD l (tx l p false) (p, false)) hgN hrN)
 clear hrN hgN
 generalize needD l (tx l p false) (p, false) = q1 at *
 go_wp2_with fail
 refine (HEX.out _ q1 (HS.out.bel h0 hg) hp1 HS.out.1).mono ?_
 rintro r w5 ⟨hgN, hrN, A5, ca5, rfl, hse, hslN⟩
 have HE := Hi_ (low_mono (B' := Q + 1) teR_more HS.out.size hslN)
 replace HS := Hi_ (HS.out.grown hgN hrN)
 clear hrN hgN hslN
 generalize exprD l E 60 q1 = x5 at *
 obtain ⟨e, q5⟩ := x5
 dsimp only at *
 have c9 := HS.out.cell 9 (v := .int .i64 0) rfl
 have g9 := HS.out.frozen 9
 have c10 := HS.out.cell 10 (v := .int .i64 0) rfl
 have g10 := HS.out.frozen 10
 have c11 := HS.out.cell 11 (v := .int .i64 0) rfl
 have g11 := HS.out.frozen 11
 have c12 := HS.out.cell 12 (v := .string ⟨#[]⟩) rfl
 have g12 := HS.out.frozen 12
 have c13 := HS.out.cell 13 (v := .slice none 0 0) rfl
 have g13 := HS.out.frozen 13
 go_upto_region 40 with fail
 replace HE := Hi_ ((((((HE.out).keep (low_set _ (i := 9) (.int .i64 e.kind) (Nat.lt_succ_self Q))).keep (low_set _ (i := 10) (.int .i64 e.at_) (Nat.lt_succ_self Q))).keep (low_set _ (i := 11) (.int .i64 e.n) (Nat.lt_succ_self Q))).keep (low_set _ (i := 12) (.string e.name) (Nat.lt_succ_self Q))).keep (low_set _ (i := 13) (.slice A5 e.args.length ca5) (Nat.lt_succ_self Q)))
 replace HS := Hi_ ((((((HS.out.put 9 (.int .i64 e.kind)).put 10 (.int .i64 e.at_)).put 11 (.int .i64 e.n)).put 12 (.string e.name)).put 13 (.slice A5 e.args.length ca5)).to (cs' := #[.int .i64 7, .int .i64 (place l E p), .string ⟨#[]⟩, .string ⟨#[]⟩, .int .i64 0, .int .i64 0, .int .i64 0, .string ⟨#[]⟩, .slice none 0 0, .int .i64 e.kind, .int .i64 e.at_, .int .i64 e.n, .string e.name, .slice A5 e.args.length ca5, .slice none 0 0, .slice none 0 0, .slice none 0 0]) rfl)
 generalize HW3 : World.setCell _ _ _ = V3 at *
 clear HW3 c9 g9 c10 g10 c11 g11 c12 g12 c13 g13
 go_wp2_with fail
 refine (HBK.out q5 _ hp2 (HS.out.bel h0 hg) HS.out.1 hfu).mono ?_
 rintro r w6 ⟨hgN, hrN, vb6, rfl, hslN⟩
 replace HE := Hi_ (HE.out.keep (low_grown hgN (by have := HS.out.lt; omega)))
 have HT := Hi_ (low_mono (B' := Q + 1) tcR_more HS.out.size hslN)
 replace HS := Hi_ (HS.out.grown hgN hrN)
 clear hrN hgN hslN
 generalize blk q5 = x6 at *
 obtain ⟨xt, q6⟩ := x6
 dsimp only at *
 obtain ⟨B6, cb6, rfl, -⟩ := id HT.out
 have c15 := HS.out.cell 15 (v := .slice none 0 0) rfl
 have g15 := HS.out.frozen 15
 go_upto_region 41 with fail
 replace HE := Hi_ ((HE.out).keep (low_set _ (i := 15) (.slice B6 xt.length cb6) (Nat.lt_succ_self Q)))
 replace HT := Hi_ ((HT.out).keep (low_set _ (i := 15) (.slice B6 xt.length cb6) (Nat.lt_succ_self Q)))
 replace HS := Hi_ ((HS.out.put 15 (.slice B6 xt.length cb6)).to (cs' := #[.int .i64 7, .int .i64 (place l E p), .string ⟨#[]⟩, .string ⟨#[]⟩, .int .i64 0, .int .i64 0, .int .i64 0, .string ⟨#[]⟩, .slice none 0 0, .int .i64 e.kind, .int .i64 e.at_, .int .i64 e.n, .string e.name, .slice A5 e.args.length ca5, .slice none 0 0, .slice B6 xt.length cb6, .slice none 0 0]) rfl)
 generalize HW4 : World.setCell _ _ _ = V4 at *
 clear HW4 c15 g15
 replace HS := Hi_ HS.out.fresh
 go_upto_region 44 with fail
 clear HTX HT1 HND HNA HEX eP eI eW HBK
 refine wp_move_row 53 (.tmp 3) (.tmp 2) (.tmp 132) rfl rfl rfl rfl Q w.heap.size rfl 53 #[.int .i64 7, .int .i64 (place l E p), .string ⟨#[]⟩, .string ⟨#[]⟩, .int .i64 0, .int .i64 0, .int .i64 0, .string ⟨#[]⟩, .slice none 0 0, .int .i64 e.kind, .int .i64 e.at_, .int .i64 e.n, .string e.name, .slice A5 e.args.length ca5, .slice none 0 0, .slice B6 xt.length cb6, .slice none 0 0] #[.int .i64 0, .int .i64 0, .string ⟨#[]⟩, .string ⟨#[]⟩, .int .i64 0, .int .i64 0, .int .i64 0, .string ⟨#[]⟩, .slice none 0 0, .int .i64 0, .int .i64 0, .int .i64 0, .string ⟨#[]⟩, .slice none 0 0, .slice none 0 0, .slice none 0 0, .slice none 0 0] HS.out.2.1 HS.out.2.2.1 rfl rfl _ Tryz.underlying53 rfl (by kernel_rfl) rfl (by simp [Value.oneCell']) ?_
 have HF := Hi_ (HS.out.row #[.int .i64 7, .int .i64 (place l E p), .string ⟨#[]⟩, .string ⟨#[]⟩, .int .i64 0, .int .i64 0, .int .i64 0, .string ⟨#[]⟩, .slice none 0 0, .int .i64 e.kind, .int .i64 e.at_, .int .i64 e.n, .string e.name, .slice A5 e.args.length ca5, .slice none 0 0, .slice B6 xt.length cb6, .slice none 0 0])
 generalize World.setRow _ _ _ = W99 at *
 go_wp2
 have hlt3 := HF.out.lt
 refine bodyPost_ret (v := .agg #[.int .i64 7, .int .i64 (place l E p), .string ⟨#[]⟩, .string ⟨#[]⟩, .int .i64 0, .int .i64 0, .int .i64 0, .string ⟨#[]⟩, .slice none 0 0, .int .i64 e.kind, .int .i64 e.at_, .int .i64 e.n, .string e.name, .slice A5 e.args.length ca5, .slice none 0 0, .slice B6 xt.length cb6, .slice none 0 0]) (results_cell_row rfl _ _ w.heap.size 53 #[.int .i64 7, .int .i64 (place l E p), .string ⟨#[]⟩, .string ⟨#[]⟩, .int .i64 0, .int .i64 0, .int .i64 0, .string ⟨#[]⟩, .slice none 0 0, .int .i64 e.kind, .int .i64 e.at_, .int .i64 e.n, .string e.name, .slice A5 e.args.length ca5, .slice none 0 0, .slice B6 xt.length cb6, .slice none 0 0] (0, 0) _ rfl HF.out.2.2.1 Tryz.underlying53 rfl (by kernel_rfl)) rfl (.mk HEQ.out HF.out.grew HF.out.1 ?_)
 exact TCR.shut (Nat.zero_le _) (Nat.zero_le _) (Nat.zero_le _) hse (Sl.nil_ _ _) (low_mono teR_more (by omega) (HE.out.keep HF.out.low_)) (Sl.nil_ _ _) (low_mono tcR_more (by omega) (HT.out.keep HF.out.low_)) (Sl.nil_ _ _)
set_option maxRecDepth 20000 in
set_option maxHeartbeats 4000000 in
theorem cmd_if (l : List Tok) (lv : Value) (E g : Nat) (blk : RS → List TC × RS) (p : Nat) (w0 w : World) (hl : Sl tokR w0 lv l) (hn : l.length ≤ 6000) (hok : ∀ t ∈ l, TokOk t) (hm : ∀ t ∈ l, t.text.size ≤ maxLen) (hg : w0.heap.size ≤ g) (hp : p ≤ l.length) (h0 : Bel w0 w) (h : Rd w g lv p E false)
  (h1 : tx l p false = ifB) (h3 : tx l (blk (exprD l E 60 (needD l (tx l p false) (p, false))).2).2.1 (blk (exprD l E 60 (needD l (tx l p false) (p, false))).2).2.2 ≠ elseB) (m : Nat) (hlm : l.length - p < m + 1) (hble : ∀ q, q.1 ≤ l.length → q.1 ≤ (blk q).2.1 ∧ (blk q).2.1 ≤ l.length)
  (hblk : ∀ (q : RS) W, q.1 ≤ l.length → Bel w0 W → Rd W g lv q.1 E q.2 → (q.2 = true ∨ l.length - q.1 < m) → Calls Tryz.prog 146 #[.pointer (some ⟨g, 0, none⟩)] W fun r w' => ListRes tcR W g lv E (blk q) r w') :
  Calls Tryz.prog 94 #[.pointer (some ⟨g, 0, none⟩)] w fun r w' => CmdRes w g lv E (cmdD l E blk (p, false)) r w' := by
 have HHE := Hi_ (here_any l lv p E g false (w.alloc (.cells #[.int .i64 0, .int .i64 0, .string ⟨#[]⟩, .string ⟨#[]⟩, .int .i64 0, .int .i64 0, .int .i64 0, .string ⟨#[]⟩, .slice none 0 0, .int .i64 0, .int .i64 0, .int .i64 0, .string ⟨#[]⟩, .slice none 0 0, .slice none 0 0, .slice none 0 0, .slice none 0 0] 53)) ((hl.keep h0).keep ((Bel.rfl_ w).al _)) hn (h.keep ((Bel.rfl_ w).al _)))
 have HTX := Hi_ (jTX (g := g) (E := E) hl hn)
 have HT1 := Hi_ (jT1 (g := g) (E := E) hl hn)
 have HND := Hi_ (jND (g := g) (E := E) hl hn)
 have HNA := Hi_ (jNA (g := g) (E := E) hl hn hm)
 have HEX := Hi_ (fun W (q : RS) (hb : Bel w0 W) (hq : q.1 ≤ l.length) (h : Rd W g lv q.1 E q.2) => expr_all l lv E g w0 hl hn hok hm hg 60 q 0 W (by omega) (by omega) hq hb h)
 have eP : ((tx l p false).toList == [112, 114, 105, 110, 116]) = false := lit_false (fun e : tx l p false = printB => absurd (h1.symm.trans e) (by decide))
 have eI : ((tx l p false).toList == [105, 102]) = true := lit_true h1
 have eW : ((tx l p false).toList == [119, 104, 105, 108, 101]) = false := lit_false (fun e : tx l p false = whileB => absurd (h1.symm.trans e) (by decide))
 have HBK := Hi_ hblk
 have HEQ := Hi_ (cmdD_if (E := E) (blk := blk) h1 h3)
 have hgo := needD_go (q := (p, false)) rfl (rfl : tx l p false = tx l p false)
 have hp1 := needD_le (l := l) (q := (p, false)) (fun e => absurd (h1.symm.trans e) (by decide)) hp
 have hp2 := exprD_le (E := E) hok 60 _ hp1
 have hp3 := (hble _ hp2).2
 have hfu : (exprD l E 60 (needD l (tx l p false) (p, false))).2.2 = true ∨ l.length - (exprD l E 60 (needD l (tx l p false) (p, false))).2.1 < m := Or.inr (by
  have h4 := exprD_ge (l := l) (E := E) 60 (needD l (tx l p false) (p, false))
  have h5 : (needD l (tx l p false) (p, false)).1 = p + 1 := by rw [hgo]
  omega)
 have eE : ((tx l (blk (exprD l E 60 (needD l (tx l p false) (p, false))).2).2.1 (blk (exprD l E 60 (needD l (tx l p false) (p, false))).2).2.2).toList == [101, 108, 115, 101]) = false := lit_false h3
 clear h1 hblk hble hgo hlm h3
 go_enter Tryz.func94, Tryz.ntmps94
 go_wp2_with fail
 refine HHE.out.mono ?_
 rintro r w1 ⟨rfl, hb⟩
 have HS := Hi_ (Bld.start (r := (p, false)) h 53 #[.int .i64 0, .int .i64 0, .string ⟨#[]⟩, .string ⟨#[]⟩, .int .i64 0, .int .i64 0, .int .i64 0, .string ⟨#[]⟩, .slice none 0 0, .int .i64 0, .int .i64 0, .int .i64 0, .string ⟨#[]⟩, .slice none 0 0, .slice none 0 0, .slice none 0 0, .slice none 0 0] #[.int .i64 0, .int .i64 (place l E p), .string ⟨#[]⟩, .string ⟨#[]⟩, .int .i64 0, .int .i64 0, .int .i64 0, .string ⟨#[]⟩, .slice none 0 0, .int .i64 0, .int .i64 0, .int .i64 0, .string ⟨#[]⟩, .slice none 0 0, .slice none 0 0, .slice none 0 0, .slice none 0 0] hb)
 clear hb HHE h
 go_upto_region 2 with fail
 generalize w1.alloc (.cells #[.int .i64 0, .int .i64 (place l E p), .string ⟨#[]⟩, .string ⟨#[]⟩, .int .i64 0, .int .i64 0, .int .i64 0, .string ⟨#[]⟩, .slice none 0 0, .int .i64 0, .int .i64 0, .int .i64 0, .string ⟨#[]⟩, .slice none 0 0, .slice none 0 0, .slice none 0 0, .slice none 0 0] 53) = W2 at *
 generalize w1.heap.size = Q at *
 go_wp2_with fail
 refine (HTX.out _ (p, false) (HS.out.bel h0 hg) hp HS.out.1).mono ?_
 rintro r w2 ⟨rfl, hb⟩
 replace HS := Hi_ (HS.out.keep hb)
 clear hb
 have c0 := HS.out.cell 0 (v := .int .i64 0) rfl
 have g0 := HS.out.frozen 0
 go_upto_region 36 with fail
 replace HS := Hi_ ((HS.out.put 0 (.int .i64 6)).to (cs' := #[.int .i64 6, .int .i64 (place l E p), .string ⟨#[]⟩, .string ⟨#[]⟩, .int .i64 0, .int .i64 0, .int .i64 0, .string ⟨#[]⟩, .slice none 0 0, .int .i64 0, .int .i64 0, .int .i64 0, .string ⟨#[]⟩, .slice none 0 0, .slice none 0 0, .slice none 0 0, .slice none 0 0]) rfl)
 generalize HW1 : World.setCell _ _ _ = V1 at *
 clear HW1 c0 g0
 go_wp2_with fail
 refine (HND.out _ (p, false) (tx l p false) (HS.out.bel h0 hg) hp HS.out.1).mono ?_
 rintro r w4 ⟨⟨v4, rfl⟩, hrN, hgN⟩
 replace HS := Hi_ (HS.out.grown (r' := needD l (tx l p false) (p, false)) hgN hrN)
 clear hrN hgN
 generalize needD l (tx l p false) (p, false) = q1 at *
 go_wp2_with fail
 refine (HEX.out _ q1 (HS.out.bel h0 hg) hp1 HS.out.1).mono ?_
 rintro r w5 ⟨hgN, hrN, A5, ca5, rfl, hse, hslN⟩
 have HE := Hi_ (low_mono (B' := Q + 1) teR_more HS.out.size hslN)
 replace HS := Hi_ (HS.out.grown hgN hrN)
 clear hrN hgN hslN
 generalize exprD l E 60 q1 = x5 at *
 obtain ⟨e, q5⟩ := x5
 dsimp only at *
 have c9 := HS.out.cell 9 (v := .int .i64 0) rfl
 have g9 := HS.out.frozen 9
 have c10 := HS.out.cell 10 (v := .int .i64 0) rfl
 have g10 := HS.out.frozen 10
 have c11 := HS.out.cell 11 (v := .int .i64 0) rfl
 have g11 := HS.out.frozen 11
 have c12 := HS.out.cell 12 (v := .string ⟨#[]⟩) rfl
 have g12 := HS.out.frozen 12
 have c13 := HS.out.cell 13 (v := .slice none 0 0) rfl
 have g13 := HS.out.frozen 13
 go_upto_region 40 with fail
 replace HE := Hi_ ((((((HE.out).keep (low_set _ (i := 9) (.int .i64 e.kind) (Nat.lt_succ_self Q))).keep (low_set _ (i := 10) (.int .i64 e.at_) (Nat.lt_succ_self Q))).keep (low_set _ (i := 11) (.int .i64 e.n) (Nat.lt_succ_self Q))).keep (low_set _ (i := 12) (.string e.name) (Nat.lt_succ_self Q))).keep (low_set _ (i := 13) (.slice A5 e.args.length ca5) (Nat.lt_succ_self Q)))
 replace HS := Hi_ ((((((HS.out.put 9 (.int .i64 e.kind)).put 10 (.int .i64 e.at_)).put 11 (.int .i64 e.n)).put 12 (.string e.name)).put 13 (.slice A5 e.args.length ca5)).to (cs' := #[.int .i64 6, .int .i64 (place l E p), .string ⟨#[]⟩, .string ⟨#[]⟩, .int .i64 0, .int .i64 0, .int .i64 0, .string ⟨#[]⟩, .slice none 0 0, .int .i64 e.kind, .int .i64 e.at_, .int .i64 e.n, .string e.name, .slice A5 e.args.length ca5, .slice none 0 0, .slice none 0 0, .slice none 0 0]) rfl)
 generalize HW2 : World.setCell _ _ _ = V2 at *
 clear HW2 c9 g9 c10 g10 c11 g11 c12 g12 c13 g13
 go_wp2_with fail
 refine (HBK.out q5 _ hp2 (HS.out.bel h0 hg) HS.out.1 hfu).mono ?_
 rintro r w6 ⟨hgN, hrN, vb6, rfl, hslN⟩
 replace HE := Hi_ (HE.out.keep (low_grown hgN (by have := HS.out.lt; omega)))
 have HT := Hi_ (low_mono (B' := Q + 1) tcR_more HS.out.size hslN)
 replace HS := Hi_ (HS.out.grown hgN hrN)
 clear hrN hgN hslN
 generalize blk q5 = x6 at *
 obtain ⟨xt, q6⟩ := x6
 dsimp only at *
 obtain ⟨B6, cb6, rfl, -⟩ := id HT.out
 have c15 := HS.out.cell 15 (v := .slice none 0 0) rfl
 have g15 := HS.out.frozen 15
 go_upto_region 41 with fail
 replace HE := Hi_ ((HE.out).keep (low_set _ (i := 15) (.slice B6 xt.length cb6) (Nat.lt_succ_self Q)))
 replace HT := Hi_ ((HT.out).keep (low_set _ (i := 15) (.slice B6 xt.length cb6) (Nat.lt_succ_self Q)))
 replace HS := Hi_ ((HS.out.put 15 (.slice B6 xt.length cb6)).to (cs' := #[.int .i64 6, .int .i64 (place l E p), .string ⟨#[]⟩, .string ⟨#[]⟩, .int .i64 0, .int .i64 0, .int .i64 0, .string ⟨#[]⟩, .slice none 0 0, .int .i64 e.kind, .int .i64 e.at_, .int .i64 e.n, .string e.name, .slice A5 e.args.length ca5, .slice none 0 0, .slice B6 xt.length cb6, .slice none 0 0]) rfl)
 generalize HW3 : World.setCell _ _ _ = V3 at *
 clear HW3 c15 g15
 go_wp2_with fail
 refine (HTX.out _ q6 (HS.out.bel h0 hg) hp3 HS.out.1).mono ?_
 rintro r w7 ⟨rfl, hb⟩
 replace HS := Hi_ (HS.out.keep hb)
 replace HE := Hi_ (HE.out.keep (low_belB hb))
 replace HT := Hi_ (HT.out.keep (low_belB hb))
 clear hb
 replace HS := Hi_ HS.out.fresh
 go_upto_region 44 with fail
 clear HTX HT1 HND HNA HEX eP eI eW HBK eE
 refine wp_move_row 53 (.tmp 3) (.tmp 2) (.tmp 132) rfl rfl rfl rfl Q w.heap.size rfl 53 #[.int .i64 6, .int .i64 (place l E p), .string ⟨#[]⟩, .string ⟨#[]⟩, .int .i64 0, .int .i64 0, .int .i64 0, .string ⟨#[]⟩, .slice none 0 0, .int .i64 e.kind, .int .i64 e.at_, .int .i64 e.n, .string e.name, .slice A5 e.args.length ca5, .slice none 0 0, .slice B6 xt.length cb6, .slice none 0 0] #[.int .i64 0, .int .i64 0, .string ⟨#[]⟩, .string ⟨#[]⟩, .int .i64 0, .int .i64 0, .int .i64 0, .string ⟨#[]⟩, .slice none 0 0, .int .i64 0, .int .i64 0, .int .i64 0, .string ⟨#[]⟩, .slice none 0 0, .slice none 0 0, .slice none 0 0, .slice none 0 0] HS.out.2.1 HS.out.2.2.1 rfl rfl _ Tryz.underlying53 rfl (by kernel_rfl) rfl (by simp [Value.oneCell']) ?_
 have HF := Hi_ (HS.out.row #[.int .i64 6, .int .i64 (place l E p), .string ⟨#[]⟩, .string ⟨#[]⟩, .int .i64 0, .int .i64 0, .int .i64 0, .string ⟨#[]⟩, .slice none 0 0, .int .i64 e.kind, .int .i64 e.at_, .int .i64 e.n, .string e.name, .slice A5 e.args.length ca5, .slice none 0 0, .slice B6 xt.length cb6, .slice none 0 0])
 generalize World.setRow _ _ _ = W99 at *
 go_wp2
 have hlt3 := HF.out.lt
 refine bodyPost_ret (v := .agg #[.int .i64 6, .int .i64 (place l E p), .string ⟨#[]⟩, .string ⟨#[]⟩, .int .i64 0, .int .i64 0, .int .i64 0, .string ⟨#[]⟩, .slice none 0 0, .int .i64 e.kind, .int .i64 e.at_, .int .i64 e.n, .string e.name, .slice A5 e.args.length ca5, .slice none 0 0, .slice B6 xt.length cb6, .slice none 0 0]) (results_cell_row rfl _ _ w.heap.size 53 #[.int .i64 6, .int .i64 (place l E p), .string ⟨#[]⟩, .string ⟨#[]⟩, .int .i64 0, .int .i64 0, .int .i64 0, .string ⟨#[]⟩, .slice none 0 0, .int .i64 e.kind, .int .i64 e.at_, .int .i64 e.n, .string e.name, .slice A5 e.args.length ca5, .slice none 0 0, .slice B6 xt.length cb6, .slice none 0 0] (0, 0) _ rfl HF.out.2.2.1 Tryz.underlying53 rfl (by kernel_rfl)) rfl (.mk HEQ.out HF.out.grew HF.out.1 ?_)
 exact TCR.shut (Nat.zero_le _) (Nat.zero_le _) (Nat.zero_le _) hse (Sl.nil_ _ _) (low_mono teR_more (by omega) (HE.out.keep HF.out.low_)) (Sl.nil_ _ _) (low_mono tcR_more (by omega) (HT.out.keep HF.out.low_)) (Sl.nil_ _ _)
set_option maxRecDepth 20000 in
set_option maxHeartbeats 4000000 in
theorem cmd_else (l : List Tok) (lv : Value) (E g : Nat) (blk : RS → List TC × RS) (p : Nat) (w0 w : World) (hl : Sl tokR w0 lv l) (hn : l.length ≤ 6000) (hok : ∀ t ∈ l, TokOk t) (hm : ∀ t ∈ l, t.text.size ≤ maxLen) (hg : w0.heap.size ≤ g) (hp : p ≤ l.length) (h0 : Bel w0 w) (h : Rd w g lv p E false)
  (h1 : tx l p false = ifB) (h3 : tx l (blk (exprD l E 60 (needD l (tx l p false) (p, false))).2).2.1 (blk (exprD l E 60 (needD l (tx l p false) (p, false))).2).2.2 = elseB) (m : Nat) (hlm : l.length - p < m + 1) (hble : ∀ q, q.1 ≤ l.length → q.1 ≤ (blk q).2.1 ∧ (blk q).2.1 ≤ l.length)
  (hblk : ∀ (q : RS) W, q.1 ≤ l.length → Bel w0 W → Rd W g lv q.1 E q.2 → (q.2 = true ∨ l.length - q.1 < m) → Calls Tryz.prog 146 #[.pointer (some ⟨g, 0, none⟩)] W fun r w' => ListRes tcR W g lv E (blk q) r w') :
  Calls Tryz.prog 94 #[.pointer (some ⟨g, 0, none⟩)] w fun r w' => CmdRes w g lv E (cmdD l E blk (p, false)) r w' := by
 have HHE := Hi_ (here_any l lv p E g false (w.alloc (.cells #[.int .i64 0, .int .i64 0, .string ⟨#[]⟩, .string ⟨#[]⟩, .int .i64 0, .int .i64 0, .int .i64 0, .string ⟨#[]⟩, .slice none 0 0, .int .i64 0, .int .i64 0, .int .i64 0, .string ⟨#[]⟩, .slice none 0 0, .slice none 0 0, .slice none 0 0, .slice none 0 0] 53)) ((hl.keep h0).keep ((Bel.rfl_ w).al _)) hn (h.keep ((Bel.rfl_ w).al _)))
 have HTX := Hi_ (jTX (g := g) (E := E) hl hn)
 have HT1 := Hi_ (jT1 (g := g) (E := E) hl hn)
 have HND := Hi_ (jND (g := g) (E := E) hl hn)
 have HNA := Hi_ (jNA (g := g) (E := E) hl hn hm)
 have HEX := Hi_ (fun W (q : RS) (hb : Bel w0 W) (hq : q.1 ≤ l.length) (h : Rd W g lv q.1 E q.2) => expr_all l lv E g w0 hl hn hok hm hg 60 q 0 W (by omega) (by omega) hq hb h)
 have eP : ((tx l p false).toList == [112, 114, 105, 110, 116]) = false := lit_false (fun e : tx l p false = printB => absurd (h1.symm.trans e) (by decide))
 have eI : ((tx l p false).toList == [105, 102]) = true := lit_true h1
 have eW : ((tx l p false).toList == [119, 104, 105, 108, 101]) = false := lit_false (fun e : tx l p false = whileB => absurd (h1.symm.trans e) (by decide))
 have HBK := Hi_ hblk
 have HEQ := Hi_ (cmdD_else (E := E) (blk := blk) h1 h3)
 have hgo := needD_go (q := (p, false)) rfl (rfl : tx l p false = tx l p false)
 have hp1 := needD_le (l := l) (q := (p, false)) (fun e => absurd (h1.symm.trans e) (by decide)) hp
 have hp2 := exprD_le (E := E) hok 60 _ hp1
 have hp3 := (hble _ hp2).2
 have hfu : (exprD l E 60 (needD l (tx l p false) (p, false))).2.2 = true ∨ l.length - (exprD l E 60 (needD l (tx l p false) (p, false))).2.1 < m := Or.inr (by
  have h4 := exprD_ge (l := l) (E := E) 60 (needD l (tx l p false) (p, false))
  have h5 : (needD l (tx l p false) (p, false)).1 = p + 1 := by rw [hgo]
  omega)
 have hp5 := needD_le (l := l) (s := elseB) (q := (blk (exprD l E 60 (needD l (tx l p false) (p, false))).2).2) (by decide) hp3
 have hfu2 : (needD l elseB (blk (exprD l E 60 (needD l (tx l p false) (p, false))).2).2).2 = true ∨ l.length - (needD l elseB (blk (exprD l E 60 (needD l (tx l p false) (p, false))).2).2).1 < m := Or.inr (by
  have h4 := exprD_ge (l := l) (E := E) 60 (needD l (tx l p false) (p, false))
  have h5 : (needD l (tx l p false) (p, false)).1 = p + 1 := by rw [hgo]
  have h6 := (hble _ hp2).1
  have h7 := needD_ge (l := l) (s := elseB) (q := (blk (exprD l E 60 (needD l (tx l p false) (p, false))).2).2)
  omega)
 have eE : ((tx l (blk (exprD l E 60 (needD l (tx l p false) (p, false))).2).2.1 (blk (exprD l E 60 (needD l (tx l p false) (p, false))).2).2.2).toList == [101, 108, 115, 101]) = true := lit_true h3
 clear h1 hblk hble hgo hlm h3
 go_enter Tryz.func94, Tryz.ntmps94
 go_wp2_with fail
 refine HHE.out.mono ?_
 rintro r w1 ⟨rfl, hb⟩
 have HS := Hi_ (Bld.start (r := (p, false)) h 53 #[.int .i64 0, .int .i64 0, .string ⟨#[]⟩, .string ⟨#[]⟩, .int .i64 0, .int .i64 0, .int .i64 0, .string ⟨#[]⟩, .slice none 0 0, .int .i64 0, .int .i64 0, .int .i64 0, .string ⟨#[]⟩, .slice none 0 0, .slice none 0 0, .slice none 0 0, .slice none 0 0] #[.int .i64 0, .int .i64 (place l E p), .string ⟨#[]⟩, .string ⟨#[]⟩, .int .i64 0, .int .i64 0, .int .i64 0, .string ⟨#[]⟩, .slice none 0 0, .int .i64 0, .int .i64 0, .int .i64 0, .string ⟨#[]⟩, .slice none 0 0, .slice none 0 0, .slice none 0 0, .slice none 0 0] hb)
 clear hb HHE h
 go_upto_region 2 with fail
 generalize w1.alloc (.cells #[.int .i64 0, .int .i64 (place l E p), .string ⟨#[]⟩, .string ⟨#[]⟩, .int .i64 0, .int .i64 0, .int .i64 0, .string ⟨#[]⟩, .slice none 0 0, .int .i64 0, .int .i64 0, .int .i64 0, .string ⟨#[]⟩, .slice none 0 0, .slice none 0 0, .slice none 0 0, .slice none 0 0] 53) = W2 at *
 generalize w1.heap.size = Q at *
 go_wp2_with fail
 refine (HTX.out _ (p, false) (HS.out.bel h0 hg) hp HS.out.1).mono ?_
 rintro r w2 ⟨rfl, hb⟩
 replace HS := Hi_ (HS.out.keep hb)
 clear hb
 have c0 := HS.out.cell 0 (v := .int .i64 0) rfl
 have g0 := HS.out.frozen 0
 go_upto_region 36 with fail
 replace HS := Hi_ ((HS.out.put 0 (.int .i64 6)).to (cs' := #[.int .i64 6, .int .i64 (place l E p), .string ⟨#[]⟩, .string ⟨#[]⟩, .int .i64 0, .int .i64 0, .int .i64 0, .string ⟨#[]⟩, .slice none 0 0, .int .i64 0, .int .i64 0, .int .i64 0, .string ⟨#[]⟩, .slice none 0 0, .slice none 0 0, .slice none 0 0, .slice none 0 0]) rfl)
 generalize HW1 : World.setCell _ _ _ = V1 at *
 clear HW1 c0 g0
 go_wp2_with fail
 refine (HND.out _ (p, false) (tx l p false) (HS.out.bel h0 hg) hp HS.out.1).mono ?_
 rintro r w4 ⟨⟨v4, rfl⟩, hrN, hgN⟩
 replace HS := Hi_ (HS.out.grown (r' := needD l (tx l p false) (p, false)) hgN hrN)
 clear hrN hgN
 generalize needD l (tx l p false) (p, false) = q1 at *
 go_wp2_with fail
 refine (HEX.out _ q1 (HS.out.bel h0 hg) hp1 HS.out.1).mono ?_
 rintro r w5 ⟨hgN, hrN, A5, ca5, rfl, hse, hslN⟩
 have HE := Hi_ (low_mono (B' := Q + 1) teR_more HS.out.size hslN)
 replace HS := Hi_ (HS.out.grown hgN hrN)
 clear hrN hgN hslN
 generalize exprD l E 60 q1 = x5 at *
 obtain ⟨e, q5⟩ := x5
 dsimp only at *
 have c9 := HS.out.cell 9 (v := .int .i64 0) rfl
 have g9 := HS.out.frozen 9
 have c10 := HS.out.cell 10 (v := .int .i64 0) rfl
 have g10 := HS.out.frozen 10
 have c11 := HS.out.cell 11 (v := .int .i64 0) rfl
 have g11 := HS.out.frozen 11
 have c12 := HS.out.cell 12 (v := .string ⟨#[]⟩) rfl
 have g12 := HS.out.frozen 12
 have c13 := HS.out.cell 13 (v := .slice none 0 0) rfl
 have g13 := HS.out.frozen 13
 go_upto_region 40 with fail
 replace HE := Hi_ ((((((HE.out).keep (low_set _ (i := 9) (.int .i64 e.kind) (Nat.lt_succ_self Q))).keep (low_set _ (i := 10) (.int .i64 e.at_) (Nat.lt_succ_self Q))).keep (low_set _ (i := 11) (.int .i64 e.n) (Nat.lt_succ_self Q))).keep (low_set _ (i := 12) (.string e.name) (Nat.lt_succ_self Q))).keep (low_set _ (i := 13) (.slice A5 e.args.length ca5) (Nat.lt_succ_self Q)))
 replace HS := Hi_ ((((((HS.out.put 9 (.int .i64 e.kind)).put 10 (.int .i64 e.at_)).put 11 (.int .i64 e.n)).put 12 (.string e.name)).put 13 (.slice A5 e.args.length ca5)).to (cs' := #[.int .i64 6, .int .i64 (place l E p), .string ⟨#[]⟩, .string ⟨#[]⟩, .int .i64 0, .int .i64 0, .int .i64 0, .string ⟨#[]⟩, .slice none 0 0, .int .i64 e.kind, .int .i64 e.at_, .int .i64 e.n, .string e.name, .slice A5 e.args.length ca5, .slice none 0 0, .slice none 0 0, .slice none 0 0]) rfl)
 generalize HW2 : World.setCell _ _ _ = V2 at *
 clear HW2 c9 g9 c10 g10 c11 g11 c12 g12 c13 g13
 go_wp2_with fail
 refine (HBK.out q5 _ hp2 (HS.out.bel h0 hg) HS.out.1 hfu).mono ?_
 rintro r w6 ⟨hgN, hrN, vb6, rfl, hslN⟩
 replace HE := Hi_ (HE.out.keep (low_grown hgN (by have := HS.out.lt; omega)))
 have HT := Hi_ (low_mono (B' := Q + 1) tcR_more HS.out.size hslN)
 replace HS := Hi_ (HS.out.grown hgN hrN)
 clear hrN hgN hslN
 generalize blk q5 = x6 at *
 obtain ⟨xt, q6⟩ := x6
 dsimp only at *
 obtain ⟨B6, cb6, rfl, -⟩ := id HT.out
 have c15 := HS.out.cell 15 (v := .slice none 0 0) rfl
 have g15 := HS.out.frozen 15
 go_upto_region 41 with fail
 replace HE := Hi_ ((HE.out).keep (low_set _ (i := 15) (.slice B6 xt.length cb6) (Nat.lt_succ_self Q)))
 replace HT := Hi_ ((HT.out).keep (low_set _ (i := 15) (.slice B6 xt.length cb6) (Nat.lt_succ_self Q)))
 replace HS := Hi_ ((HS.out.put 15 (.slice B6 xt.length cb6)).to (cs' := #[.int .i64 6, .int .i64 (place l E p), .string ⟨#[]⟩, .string ⟨#[]⟩, .int .i64 0, .int .i64 0, .int .i64 0, .string ⟨#[]⟩, .slice none 0 0, .int .i64 e.kind, .int .i64 e.at_, .int .i64 e.n, .string e.name, .slice A5 e.args.length ca5, .slice none 0 0, .slice B6 xt.length cb6, .slice none 0 0]) rfl)
 generalize HW3 : World.setCell _ _ _ = V3 at *
 clear HW3 c15 g15
 go_wp2_with fail
 refine (HTX.out _ q6 (HS.out.bel h0 hg) hp3 HS.out.1).mono ?_
 rintro r w7 ⟨rfl, hb⟩
 replace HS := Hi_ (HS.out.keep hb)
 replace HE := Hi_ (HE.out.keep (low_belB hb))
 replace HT := Hi_ (HT.out.keep (low_belB hb))
 clear hb
 go_wp2_with fail
 refine (HND.out _ q6 ⟨#[101, 108, 115, 101]⟩ (HS.out.bel h0 hg) hp3 HS.out.1).mono ?_
 rintro r w8 ⟨⟨v8, rfl⟩, hrN, hgN⟩
 replace HE := Hi_ (HE.out.keep (low_grown hgN (by have := HS.out.lt; omega)))
 replace HT := Hi_ (HT.out.keep (low_grown hgN (by have := HS.out.lt; omega)))
 replace HS := Hi_ (HS.out.grown (r' := needD l elseB q6) hgN hrN)
 clear hrN hgN
 generalize needD l elseB q6 = q9 at *
 go_wp2_with fail
 refine (HBK.out q9 _ hp5 (HS.out.bel h0 hg) HS.out.1 hfu2).mono ?_
 rintro r w9 ⟨hgN, hrN, vb9, rfl, hslN⟩
 replace HE := Hi_ (HE.out.keep (low_grown hgN (by have := HS.out.lt; omega)))
 replace HT := Hi_ (HT.out.keep (low_grown hgN (by have := HS.out.lt; omega)))
 have HL := Hi_ (low_mono (B' := Q + 1) tcR_more HS.out.size hslN)
 replace HS := Hi_ (HS.out.grown hgN hrN)
 clear hrN hgN hslN
 generalize blk q9 = x9 at *
 obtain ⟨xe, q9⟩ := x9
 dsimp only at *
 obtain ⟨B9, cb9, rfl, -⟩ := id HL.out
 have c16 := HS.out.cell 16 (v := .slice none 0 0) rfl
 have g16 := HS.out.frozen 16
 go_upto_region 44 with fail
 replace HE := Hi_ ((HE.out).keep (low_set _ (i := 16) (.slice B9 xe.length cb9) (Nat.lt_succ_self Q)))
 replace HT := Hi_ ((HT.out).keep (low_set _ (i := 16) (.slice B9 xe.length cb9) (Nat.lt_succ_self Q)))
 replace HL := Hi_ ((HL.out).keep (low_set _ (i := 16) (.slice B9 xe.length cb9) (Nat.lt_succ_self Q)))
 replace HS := Hi_ ((HS.out.put 16 (.slice B9 xe.length cb9)).to (cs' := #[.int .i64 6, .int .i64 (place l E p), .string ⟨#[]⟩, .string ⟨#[]⟩, .int .i64 0, .int .i64 0, .int .i64 0, .string ⟨#[]⟩, .slice none 0 0, .int .i64 e.kind, .int .i64 e.at_, .int .i64 e.n, .string e.name, .slice A5 e.args.length ca5, .slice none 0 0, .slice B6 xt.length cb6, .slice B9 xe.length cb9]) rfl)
 generalize HW4 : World.setCell _ _ _ = V4 at *
 clear HW4 c16 g16
 replace HS := Hi_ HS.out.fresh
 go_upto_region 44 with fail
 clear HTX HT1 HND HNA HEX eP eI eW HBK eE
 refine wp_move_row 53 (.tmp 3) (.tmp 2) (.tmp 132) rfl rfl rfl rfl Q w.heap.size rfl 53 #[.int .i64 6, .int .i64 (place l E p), .string ⟨#[]⟩, .string ⟨#[]⟩, .int .i64 0, .int .i64 0, .int .i64 0, .string ⟨#[]⟩, .slice none 0 0, .int .i64 e.kind, .int .i64 e.at_, .int .i64 e.n, .string e.name, .slice A5 e.args.length ca5, .slice none 0 0, .slice B6 xt.length cb6, .slice B9 xe.length cb9] #[.int .i64 0, .int .i64 0, .string ⟨#[]⟩, .string ⟨#[]⟩, .int .i64 0, .int .i64 0, .int .i64 0, .string ⟨#[]⟩, .slice none 0 0, .int .i64 0, .int .i64 0, .int .i64 0, .string ⟨#[]⟩, .slice none 0 0, .slice none 0 0, .slice none 0 0, .slice none 0 0] HS.out.2.1 HS.out.2.2.1 rfl rfl _ Tryz.underlying53 rfl (by kernel_rfl) rfl (by simp [Value.oneCell']) ?_
 have HF := Hi_ (HS.out.row #[.int .i64 6, .int .i64 (place l E p), .string ⟨#[]⟩, .string ⟨#[]⟩, .int .i64 0, .int .i64 0, .int .i64 0, .string ⟨#[]⟩, .slice none 0 0, .int .i64 e.kind, .int .i64 e.at_, .int .i64 e.n, .string e.name, .slice A5 e.args.length ca5, .slice none 0 0, .slice B6 xt.length cb6, .slice B9 xe.length cb9])
 generalize World.setRow _ _ _ = W99 at *
 go_wp2
 have hlt3 := HF.out.lt
 refine bodyPost_ret (v := .agg #[.int .i64 6, .int .i64 (place l E p), .string ⟨#[]⟩, .string ⟨#[]⟩, .int .i64 0, .int .i64 0, .int .i64 0, .string ⟨#[]⟩, .slice none 0 0, .int .i64 e.kind, .int .i64 e.at_, .int .i64 e.n, .string e.name, .slice A5 e.args.length ca5, .slice none 0 0, .slice B6 xt.length cb6, .slice B9 xe.length cb9]) (results_cell_row rfl _ _ w.heap.size 53 #[.int .i64 6, .int .i64 (place l E p), .string ⟨#[]⟩, .string ⟨#[]⟩, .int .i64 0, .int .i64 0, .int .i64 0, .string ⟨#[]⟩, .slice none 0 0, .int .i64 e.kind, .int .i64 e.at_, .int .i64 e.n, .string e.name, .slice A5 e.args.length ca5, .slice none 0 0, .slice B6 xt.length cb6, .slice B9 xe.length cb9] (0, 0) _ rfl HF.out.2.2.1 Tryz.underlying53 rfl (by kernel_rfl)) rfl (.mk HEQ.out HF.out.grew HF.out.1 ?_)
 exact TCR.shut (Nat.zero_le _) (Nat.zero_le _) (Nat.zero_le _) hse (Sl.nil_ _ _) (low_mono teR_more (by omega) (HE.out.keep HF.out.low_)) (Sl.nil_ _ _) (low_mono tcR_more (by omega) (HT.out.keep HF.out.low_)) (low_mono tcR_more (by omega) (HL.out.keep HF.out.low_))
end Go.Proofs.YtmfjlcpjemccmaaGreatDoor
