/- The document's reader of what a variable becomes: walked. Each lemma states its own conditions. -/
import Derived.Test.YtmfjlcpjemccmaaGreatDoorTps10
namespace Go.Proofs.YtmfjlcpjemccmaaGreatDoor
open Go.RowKit
set_option maxRecDepth 20000 in
set_option maxHeartbeats 4000000 in
theorem cmd_put (l : List Tok) (lv : Value) (E g : Nat) (blk : RS → List TC × RS) (p : Nat) (w0 w : World) (hl : Sl tokR w0 lv l) (hn : l.length ≤ 6000) (hok : ∀ t ∈ l, TokOk t) (hm : ∀ t ∈ l, t.text.size ≤ maxLen) (hg : w0.heap.size ≤ g) (hp : p ≤ l.length) (h0 : Bel w0 w) (h : Rd w g lv p E false)
  (h1 : tx l p false ≠ printB) (h2 : tx l p false ≠ ifB) (h3 : tx l p false ≠ whileB) (h4 : tx l (nameD l (p, false)).2.1 (nameD l (p, false)).2.2 = lsqB) :
  Calls Tryz.prog 94 #[.pointer (some ⟨g, 0, none⟩)] w fun r w' => CmdRes w g lv E (cmdD l E blk (p, false)) r w' := by
 have HHE := Hi_ (here_any l lv p E g false (w.alloc (.cells #[.int .i64 0, .int .i64 0, .string ⟨#[]⟩, .string ⟨#[]⟩, .int .i64 0, .int .i64 0, .int .i64 0, .string ⟨#[]⟩, .slice none 0 0, .int .i64 0, .int .i64 0, .int .i64 0, .string ⟨#[]⟩, .slice none 0 0, .slice none 0 0, .slice none 0 0, .slice none 0 0] 53)) ((hl.keep h0).keep ((Bel.rfl_ w).al _)) hn (h.keep ((Bel.rfl_ w).al _)))
 have HTX := Hi_ (jTX (g := g) (E := E) hl hn)
 have HT1 := Hi_ (jT1 (g := g) (E := E) hl hn)
 have HND := Hi_ (jND (g := g) (E := E) hl hn)
 have HNA := Hi_ (jNA (g := g) (E := E) hl hn hm)
 have HEX := Hi_ (fun W (q : RS) (hb : Bel w0 W) (hq : q.1 ≤ l.length) (h : Rd W g lv q.1 E q.2) => expr_all l lv E g w0 hl hn hok hm hg 60 q 0 W (by omega) (by omega) hq hb h)
 have eP : ((tx l p false).toList == [112, 114, 105, 110, 116]) = false := lit_false h1
 have eI : ((tx l p false).toList == [105, 102]) = false := lit_false h2
 have eW : ((tx l p false).toList == [119, 104, 105, 108, 101]) = false := lit_false h3
 have hns := name_size (l := l) (q := (p, false)) hm
 have hp1 := nameD_le (q := (p, false)) hp
 have HEQ := Hi_ (cmdD_put (E := E) (blk := blk) h1 h2 h3 h4)
 have eL : ((tx l (nameD l (p, false)).2.1 (nameD l (p, false)).2.2).toList == [91]) = true := lit_true h4
 have hp2 := needD_le (l := l) (s := lsqB) (by decide) hp1
 have hp3 := exprD_le (E := E) hok 60 _ hp2
 have hp4 := needD_le (l := l) (s := rsqB) (by decide) hp3
 have hp5 := needD_le (l := l) (s := eqB) (by decide) hp4
 have hp6 := exprD_le (E := E) hok 60 _ hp5
 clear h1 h2 h3 h4
 go_enter Tryz.func94, Tryz.ntmps94
 go_wp2_with fail
 refine HHE.out.mono ?_
 rintro r w1 ⟨rfl, hb⟩
 have HS := Hi_ (Bld.start (r := (p, false)) h 53 #[.int .i64 0, .int .i64 0, .string ⟨#[]⟩, .string ⟨#[]⟩, .int .i64 0, .int .i64 0, .int .i64 0, .string ⟨#[]⟩, .slice none 0 0, .int .i64 0, .int .i64 0, .int .i64 0, .string ⟨#[]⟩, .slice none 0 0, .slice none 0 0, .slice none 0 0, .slice none 0 0] #[.int .i64 0, .int .i64 (place l E p), .string ⟨#[]⟩, .string ⟨#[]⟩, .int .i64 0, .int .i64 0, .int .i64 0, .string ⟨#[]⟩, .slice none 0 0, .int .i64 0, .int .i64 0, .int .i64 0, .string ⟨#[]⟩, .slice none 0 0, .slice none 0 0, .slice none 0 0, .slice none 0 0] hb)
 clear hb HHE h
 go_upto_region 2 with fail
 generalize w1.alloc (.cells #[.int .i64 0, .int .i64 (place l E p), .string ⟨#[]⟩, .string ⟨#[]⟩, .int .i64 0, .int .i64 0, .int .i64 0, .string ⟨#[]⟩, .slice none 0 0, .int .i64 0, .int .i64 0, .int .i64 0, .string ⟨#[]⟩, .slice none 0 0, .slice none 0 0, .slice none 0 0, .slice none 0 0] 53) = W2 at *
 generalize w1.heap.size = Q at *
 go_wp2_with fail
 refine (HTX.out _ (p, false) (HS.out.bel h0 hg) hp HS.out.1).mono ?_
 rintro r w2 ⟨rfl, hb⟩
 replace HS := Hi_ (HS.out.keep hb)
 clear hb
 go_wp2_with fail
 refine (HNA.out _ (p, false) (HS.out.bel h0 hg) hp HS.out.1).mono ?_
 rintro r w4 ⟨rfl, hrN, hgN⟩
 replace HS := Hi_ (HS.out.grown hgN hrN)
 clear hrN hgN
 generalize nameD l (p, false) = nn at *
 obtain ⟨nm, q1⟩ := nn
 dsimp only at *
 have c2 := HS.out.cell 2 (v := .string ⟨#[]⟩) rfl
 have g2 := HS.out.frozen 2
 go_upto_region 22 with fail
 replace HS := Hi_ ((HS.out.put 2 (.string nm)).to (cs' := #[.int .i64 0, .int .i64 (place l E p), .string nm, .string ⟨#[]⟩, .int .i64 0, .int .i64 0, .int .i64 0, .string ⟨#[]⟩, .slice none 0 0, .int .i64 0, .int .i64 0, .int .i64 0, .string ⟨#[]⟩, .slice none 0 0, .slice none 0 0, .slice none 0 0, .slice none 0 0]) rfl)
 generalize HW1 : World.setCell _ _ _ = V1 at *
 clear HW1 c2 g2
 go_wp2_with fail
 refine (HTX.out _ q1 (HS.out.bel h0 hg) hp1 HS.out.1).mono ?_
 rintro r w5 ⟨rfl, hb⟩
 replace HS := Hi_ (HS.out.keep hb)
 clear hb
 have c0 := HS.out.cell 0 (v := .int .i64 0) rfl
 have g0 := HS.out.frozen 0
 go_upto_region 24 with fail
 replace HS := Hi_ ((HS.out.put 0 (.int .i64 2)).to (cs' := #[.int .i64 2, .int .i64 (place l E p), .string nm, .string ⟨#[]⟩, .int .i64 0, .int .i64 0, .int .i64 0, .string ⟨#[]⟩, .slice none 0 0, .int .i64 0, .int .i64 0, .int .i64 0, .string ⟨#[]⟩, .slice none 0 0, .slice none 0 0, .slice none 0 0, .slice none 0 0]) rfl)
 generalize HW2 : World.setCell _ _ _ = V2 at *
 clear HW2 c0 g0
 go_wp2_with fail
 refine (HND.out _ q1 ⟨#[91]⟩ (HS.out.bel h0 hg) hp1 HS.out.1).mono ?_
 rintro r w6 ⟨⟨v6, rfl⟩, hrN, hgN⟩
 replace HS := Hi_ (HS.out.grown (r' := needD l lsqB q1) hgN hrN)
 clear hrN hgN
 generalize needD l lsqB q1 = q2 at *
 go_wp2_with fail
 refine (HEX.out _ q2 (HS.out.bel h0 hg) hp2 HS.out.1).mono ?_
 rintro r w7 ⟨hgN, hrN, A7, ca7, rfl, hsi, hslN⟩
 have HI := Hi_ (low_mono (B' := Q + 1) teR_more HS.out.size hslN)
 replace HS := Hi_ (HS.out.grown hgN hrN)
 clear hrN hgN hslN
 generalize exprD l E 60 q2 = x7 at *
 obtain ⟨ei, q7⟩ := x7
 dsimp only at *
 have c4 := HS.out.cell 4 (v := .int .i64 0) rfl
 have g4 := HS.out.frozen 4
 have c5 := HS.out.cell 5 (v := .int .i64 0) rfl
 have g5 := HS.out.frozen 5
 have c6 := HS.out.cell 6 (v := .int .i64 0) rfl
 have g6 := HS.out.frozen 6
 have c7 := HS.out.cell 7 (v := .string ⟨#[]⟩) rfl
 have g7 := HS.out.frozen 7
 have c8 := HS.out.cell 8 (v := .slice none 0 0) rfl
 have g8 := HS.out.frozen 8
 go_upto_region 26 with fail
 replace HI := Hi_ ((((((HI.out).keep (low_set _ (i := 4) (.int .i64 ei.kind) (Nat.lt_succ_self Q))).keep (low_set _ (i := 5) (.int .i64 ei.at_) (Nat.lt_succ_self Q))).keep (low_set _ (i := 6) (.int .i64 ei.n) (Nat.lt_succ_self Q))).keep (low_set _ (i := 7) (.string ei.name) (Nat.lt_succ_self Q))).keep (low_set _ (i := 8) (.slice A7 ei.args.length ca7) (Nat.lt_succ_self Q)))
 replace HS := Hi_ ((((((HS.out.put 4 (.int .i64 ei.kind)).put 5 (.int .i64 ei.at_)).put 6 (.int .i64 ei.n)).put 7 (.string ei.name)).put 8 (.slice A7 ei.args.length ca7)).to (cs' := #[.int .i64 2, .int .i64 (place l E p), .string nm, .string ⟨#[]⟩, .int .i64 ei.kind, .int .i64 ei.at_, .int .i64 ei.n, .string ei.name, .slice A7 ei.args.length ca7, .int .i64 0, .int .i64 0, .int .i64 0, .string ⟨#[]⟩, .slice none 0 0, .slice none 0 0, .slice none 0 0, .slice none 0 0]) rfl)
 generalize HW3 : World.setCell _ _ _ = V3 at *
 clear HW3 c4 g4 c5 g5 c6 g6 c7 g7 c8 g8
 go_wp2_with fail
 refine (HND.out _ q7 ⟨#[93]⟩ (HS.out.bel h0 hg) hp3 HS.out.1).mono ?_
 rintro r w8 ⟨⟨v8, rfl⟩, hrN, hgN⟩
 replace HI := Hi_ (HI.out.keep (low_grown hgN (by have := HS.out.lt; omega)))
 replace HS := Hi_ (HS.out.grown (r' := needD l rsqB q7) hgN hrN)
 clear hrN hgN
 generalize needD l rsqB q7 = qq3 at *
 go_wp2_with fail
 refine (HND.out _ qq3 ⟨#[61]⟩ (HS.out.bel h0 hg) hp4 HS.out.1).mono ?_
 rintro r w9 ⟨⟨v9, rfl⟩, hrN, hgN⟩
 replace HI := Hi_ (HI.out.keep (low_grown hgN (by have := HS.out.lt; omega)))
 replace HS := Hi_ (HS.out.grown (r' := needD l eqB qq3) hgN hrN)
 clear hrN hgN
 generalize needD l eqB qq3 = qq4 at *
 go_wp2_with fail
 refine (HEX.out _ qq4 (HS.out.bel h0 hg) hp5 HS.out.1).mono ?_
 rintro r w10 ⟨hgN, hrN, A10, ca10, rfl, hse, hslN⟩
 replace HI := Hi_ (HI.out.keep (low_grown hgN (by have := HS.out.lt; omega)))
 have HE := Hi_ (low_mono (B' := Q + 1) teR_more HS.out.size hslN)
 replace HS := Hi_ (HS.out.grown hgN hrN)
 clear hrN hgN hslN
 generalize exprD l E 60 qq4 = x10 at *
 obtain ⟨e, q10⟩ := x10
 dsimp only at *
 have c9 := HS.out.cell 9 (v := .int .i64 0) rfl
 have g9 := HS.out.frozen 9
 have c10 := HS.out.cell 10 (v := .int .i64 0) rfl
 have g10 := HS.out.frozen 10
 have c11 := HS.out.cell 11 (v := .int .i64 0) rfl
 have g11 := HS.out.frozen 11
 have c12 := HS.out.cell 12 (v := .string ⟨#[]⟩) rfl
 have g12 := HS.out.frozen 12
 have c13 := HS.out.cell 13 (v := .slice none 0 0) rfl
 have g13 := HS.out.frozen 13
 go_upto_region 45 with fail
 replace HI := Hi_ ((((((HI.out).keep (low_set _ (i := 9) (.int .i64 e.kind) (Nat.lt_succ_self Q))).keep (low_set _ (i := 10) (.int .i64 e.at_) (Nat.lt_succ_self Q))).keep (low_set _ (i := 11) (.int .i64 e.n) (Nat.lt_succ_self Q))).keep (low_set _ (i := 12) (.string e.name) (Nat.lt_succ_self Q))).keep (low_set _ (i := 13) (.slice A10 e.args.length ca10) (Nat.lt_succ_self Q)))
 replace HE := Hi_ ((((((HE.out).keep (low_set _ (i := 9) (.int .i64 e.kind) (Nat.lt_succ_self Q))).keep (low_set _ (i := 10) (.int .i64 e.at_) (Nat.lt_succ_self Q))).keep (low_set _ (i := 11) (.int .i64 e.n) (Nat.lt_succ_self Q))).keep (low_set _ (i := 12) (.string e.name) (Nat.lt_succ_self Q))).keep (low_set _ (i := 13) (.slice A10 e.args.length ca10) (Nat.lt_succ_self Q)))
 replace HS := Hi_ ((((((HS.out.put 9 (.int .i64 e.kind)).put 10 (.int .i64 e.at_)).put 11 (.int .i64 e.n)).put 12 (.string e.name)).put 13 (.slice A10 e.args.length ca10)).to (cs' := #[.int .i64 2, .int .i64 (place l E p), .string nm, .string ⟨#[]⟩, .int .i64 ei.kind, .int .i64 ei.at_, .int .i64 ei.n, .string ei.name, .slice A7 ei.args.length ca7, .int .i64 e.kind, .int .i64 e.at_, .int .i64 e.n, .string e.name, .slice A10 e.args.length ca10, .slice none 0 0, .slice none 0 0, .slice none 0 0]) rfl)
 generalize HW4 : World.setCell _ _ _ = V4 at *
 clear HW4 c9 g9 c10 g10 c11 g11 c12 g12 c13 g13
 go_wp2_with fail
 refine (HND.out _ q10 ⟨#[59]⟩ (HS.out.bel h0 hg) hp6 HS.out.1).mono ?_
 rintro r w11 ⟨⟨v11, rfl⟩, hrN, hgN⟩
 replace HI := Hi_ (HI.out.keep (low_grown hgN (by have := HS.out.lt; omega)))
 replace HE := Hi_ (HE.out.keep (low_grown hgN (by have := HS.out.lt; omega)))
 replace HS := Hi_ (HS.out.grown (r' := needD l semiB q10) hgN hrN)
 clear hrN hgN
 replace HS := Hi_ HS.out.fresh
 clear HTX HT1 HND HNA HEX eP eI eW eL
 go_upto_region 46 with fail
 refine wp_move_row 53 (.tmp 3) (.tmp 2) (.tmp 135) rfl rfl rfl rfl Q w.heap.size rfl 53 #[.int .i64 2, .int .i64 (place l E p), .string nm, .string ⟨#[]⟩, .int .i64 ei.kind, .int .i64 ei.at_, .int .i64 ei.n, .string ei.name, .slice A7 ei.args.length ca7, .int .i64 e.kind, .int .i64 e.at_, .int .i64 e.n, .string e.name, .slice A10 e.args.length ca10, .slice none 0 0, .slice none 0 0, .slice none 0 0] #[.int .i64 0, .int .i64 0, .string ⟨#[]⟩, .string ⟨#[]⟩, .int .i64 0, .int .i64 0, .int .i64 0, .string ⟨#[]⟩, .slice none 0 0, .int .i64 0, .int .i64 0, .int .i64 0, .string ⟨#[]⟩, .slice none 0 0, .slice none 0 0, .slice none 0 0, .slice none 0 0] HS.out.2.1 HS.out.2.2.1 rfl rfl _ Tryz.underlying53 rfl (by kernel_rfl) rfl (by simp [Value.oneCell']) ?_
 have HF := Hi_ (HS.out.row #[.int .i64 2, .int .i64 (place l E p), .string nm, .string ⟨#[]⟩, .int .i64 ei.kind, .int .i64 ei.at_, .int .i64 ei.n, .string ei.name, .slice A7 ei.args.length ca7, .int .i64 e.kind, .int .i64 e.at_, .int .i64 e.n, .string e.name, .slice A10 e.args.length ca10, .slice none 0 0, .slice none 0 0, .slice none 0 0])
 generalize World.setRow _ _ _ = W99 at *
 go_wp2
 have hlt3 := HF.out.lt
 refine bodyPost_ret (v := .agg #[.int .i64 2, .int .i64 (place l E p), .string nm, .string ⟨#[]⟩, .int .i64 ei.kind, .int .i64 ei.at_, .int .i64 ei.n, .string ei.name, .slice A7 ei.args.length ca7, .int .i64 e.kind, .int .i64 e.at_, .int .i64 e.n, .string e.name, .slice A10 e.args.length ca10, .slice none 0 0, .slice none 0 0, .slice none 0 0]) (results_cell_row rfl _ _ w.heap.size 53 #[.int .i64 2, .int .i64 (place l E p), .string nm, .string ⟨#[]⟩, .int .i64 ei.kind, .int .i64 ei.at_, .int .i64 ei.n, .string ei.name, .slice A7 ei.args.length ca7, .int .i64 e.kind, .int .i64 e.at_, .int .i64 e.n, .string e.name, .slice A10 e.args.length ca10, .slice none 0 0, .slice none 0 0, .slice none 0 0] (0, 0) _ rfl HF.out.2.2.1 Tryz.underlying53 rfl (by kernel_rfl)) rfl (.mk HEQ.out HF.out.grew HF.out.1 ?_)
 exact TCR.shut hns (Nat.zero_le _) hsi hse (low_mono teR_more (by omega) (HI.out.keep HF.out.low_)) (low_mono teR_more (by omega) (HE.out.keep HF.out.low_)) (Sl.nil_ _ _) (Sl.nil_ _ _) (Sl.nil_ _ _)
set_option maxRecDepth 20000 in
set_option maxHeartbeats 4000000 in
theorem cmd_read (l : List Tok) (lv : Value) (E g : Nat) (blk : RS → List TC × RS) (p : Nat) (w0 w : World) (hl : Sl tokR w0 lv l) (hn : l.length ≤ 6000) (hok : ∀ t ∈ l, TokOk t) (hm : ∀ t ∈ l, t.text.size ≤ maxLen) (hg : w0.heap.size ≤ g) (hp : p ≤ l.length) (h0 : Bel w0 w) (h : Rd w g lv p E false)
  (h1 : tx l p false ≠ printB) (h2 : tx l p false ≠ ifB) (h3 : tx l p false ≠ whileB) (h4 : tx l (nameD l (p, false)).2.1 (nameD l (p, false)).2.2 ≠ lsqB) (h5 : tx l (needD l eqB (nameD l (p, false)).2).1 (needD l eqB (nameD l (p, false)).2).2 = readB) :
  Calls Tryz.prog 94 #[.pointer (some ⟨g, 0, none⟩)] w fun r w' => CmdRes w g lv E (cmdD l E blk (p, false)) r w' := by
 have HHE := Hi_ (here_any l lv p E g false (w.alloc (.cells #[.int .i64 0, .int .i64 0, .string ⟨#[]⟩, .string ⟨#[]⟩, .int .i64 0, .int .i64 0, .int .i64 0, .string ⟨#[]⟩, .slice none 0 0, .int .i64 0, .int .i64 0, .int .i64 0, .string ⟨#[]⟩, .slice none 0 0, .slice none 0 0, .slice none 0 0, .slice none 0 0] 53)) ((hl.keep h0).keep ((Bel.rfl_ w).al _)) hn (h.keep ((Bel.rfl_ w).al _)))
 have HTX := Hi_ (jTX (g := g) (E := E) hl hn)
 have HT1 := Hi_ (jT1 (g := g) (E := E) hl hn)
 have HND := Hi_ (jND (g := g) (E := E) hl hn)
 have HNA := Hi_ (jNA (g := g) (E := E) hl hn hm)
 have HEX := Hi_ (fun W (q : RS) (hb : Bel w0 W) (hq : q.1 ≤ l.length) (h : Rd W g lv q.1 E q.2) => expr_all l lv E g w0 hl hn hok hm hg 60 q 0 W (by omega) (by omega) hq hb h)
 have eP : ((tx l p false).toList == [112, 114, 105, 110, 116]) = false := lit_false h1
 have eI : ((tx l p false).toList == [105, 102]) = false := lit_false h2
 have eW : ((tx l p false).toList == [119, 104, 105, 108, 101]) = false := lit_false h3
 have hns := name_size (l := l) (q := (p, false)) hm
 have hp1 := nameD_le (q := (p, false)) hp
 have HEQ := Hi_ (cmdD_read (E := E) (blk := blk) h1 h2 h3 h4 h5)
 have eL : ((tx l (nameD l (p, false)).2.1 (nameD l (p, false)).2.2).toList == [91]) = false := lit_false h4
 have eR : ((tx l (needD l eqB (nameD l (p, false)).2).1 (needD l eqB (nameD l (p, false)).2).2).toList == [114, 101, 97, 100]) = true := lit_true h5
 have hp2 := needD_le (l := l) (s := eqB) (by decide) hp1
 have hp3 := needD_le (l := l) (s := readB) (by decide) hp2
 clear h1 h2 h3 h4 h5
 go_enter Tryz.func94, Tryz.ntmps94
 go_wp2_with fail
 refine HHE.out.mono ?_
 rintro r w1 ⟨rfl, hb⟩
 have HS := Hi_ (Bld.start (r := (p, false)) h 53 #[.int .i64 0, .int .i64 0, .string ⟨#[]⟩, .string ⟨#[]⟩, .int .i64 0, .int .i64 0, .int .i64 0, .string ⟨#[]⟩, .slice none 0 0, .int .i64 0, .int .i64 0, .int .i64 0, .string ⟨#[]⟩, .slice none 0 0, .slice none 0 0, .slice none 0 0, .slice none 0 0] #[.int .i64 0, .int .i64 (place l E p), .string ⟨#[]⟩, .string ⟨#[]⟩, .int .i64 0, .int .i64 0, .int .i64 0, .string ⟨#[]⟩, .slice none 0 0, .int .i64 0, .int .i64 0, .int .i64 0, .string ⟨#[]⟩, .slice none 0 0, .slice none 0 0, .slice none 0 0, .slice none 0 0] hb)
 clear hb HHE h
 go_upto_region 2 with fail
 generalize w1.alloc (.cells #[.int .i64 0, .int .i64 (place l E p), .string ⟨#[]⟩, .string ⟨#[]⟩, .int .i64 0, .int .i64 0, .int .i64 0, .string ⟨#[]⟩, .slice none 0 0, .int .i64 0, .int .i64 0, .int .i64 0, .string ⟨#[]⟩, .slice none 0 0, .slice none 0 0, .slice none 0 0, .slice none 0 0] 53) = W2 at *
 generalize w1.heap.size = Q at *
 go_wp2_with fail
 refine (HTX.out _ (p, false) (HS.out.bel h0 hg) hp HS.out.1).mono ?_
 rintro r w2 ⟨rfl, hb⟩
 replace HS := Hi_ (HS.out.keep hb)
 clear hb
 go_wp2_with fail
 refine (HNA.out _ (p, false) (HS.out.bel h0 hg) hp HS.out.1).mono ?_
 rintro r w4 ⟨rfl, hrN, hgN⟩
 replace HS := Hi_ (HS.out.grown hgN hrN)
 clear hrN hgN
 generalize nameD l (p, false) = nn at *
 obtain ⟨nm, q1⟩ := nn
 dsimp only at *
 have c2 := HS.out.cell 2 (v := .string ⟨#[]⟩) rfl
 have g2 := HS.out.frozen 2
 go_upto_region 22 with fail
 replace HS := Hi_ ((HS.out.put 2 (.string nm)).to (cs' := #[.int .i64 0, .int .i64 (place l E p), .string nm, .string ⟨#[]⟩, .int .i64 0, .int .i64 0, .int .i64 0, .string ⟨#[]⟩, .slice none 0 0, .int .i64 0, .int .i64 0, .int .i64 0, .string ⟨#[]⟩, .slice none 0 0, .slice none 0 0, .slice none 0 0, .slice none 0 0]) rfl)
 generalize HW1 : World.setCell _ _ _ = V1 at *
 clear HW1 c2 g2
 go_wp2_with fail
 refine (HTX.out _ q1 (HS.out.bel h0 hg) hp1 HS.out.1).mono ?_
 rintro r w5 ⟨rfl, hb⟩
 replace HS := Hi_ (HS.out.keep hb)
 clear hb
 go_wp2_with fail
 refine (HND.out _ q1 ⟨#[61]⟩ (HS.out.bel h0 hg) hp1 HS.out.1).mono ?_
 rintro r w6 ⟨⟨v6, rfl⟩, hrN, hgN⟩
 replace HS := Hi_ (HS.out.grown (r' := needD l eqB q1) hgN hrN)
 clear hrN hgN
 generalize needD l eqB q1 = q2 at *
 go_wp2_with fail
 refine (HTX.out _ q2 (HS.out.bel h0 hg) hp2 HS.out.1).mono ?_
 rintro r w7 ⟨rfl, hb⟩
 replace HS := Hi_ (HS.out.keep hb)
 clear hb
 have c0 := HS.out.cell 0 (v := .int .i64 0) rfl
 have g0 := HS.out.frozen 0
 go_upto_region 10 with fail
 replace HS := Hi_ ((HS.out.put 0 (.int .i64 4)).to (cs' := #[.int .i64 4, .int .i64 (place l E p), .string nm, .string ⟨#[]⟩, .int .i64 0, .int .i64 0, .int .i64 0, .string ⟨#[]⟩, .slice none 0 0, .int .i64 0, .int .i64 0, .int .i64 0, .string ⟨#[]⟩, .slice none 0 0, .slice none 0 0, .slice none 0 0, .slice none 0 0]) rfl)
 generalize HW2 : World.setCell _ _ _ = V2 at *
 clear HW2 c0 g0
 go_wp2_with fail
 refine (HND.out _ q2 ⟨#[114, 101, 97, 100]⟩ (HS.out.bel h0 hg) hp2 HS.out.1).mono ?_
 rintro r w8 ⟨⟨v8, rfl⟩, hrN, hgN⟩
 replace HS := Hi_ (HS.out.grown (r' := needD l readB q2) hgN hrN)
 clear hrN hgN
 generalize needD l readB q2 = q3 at *
 go_wp2_with fail
 refine (HND.out _ q3 ⟨#[59]⟩ (HS.out.bel h0 hg) hp3 HS.out.1).mono ?_
 rintro r w9 ⟨⟨v9, rfl⟩, hrN, hgN⟩
 replace HS := Hi_ (HS.out.grown (r' := needD l semiB q3) hgN hrN)
 clear hrN hgN
 replace HS := Hi_ HS.out.fresh
 clear HTX HT1 HND HNA HEX eP eI eW eL eR
 go_upto_region 46 with fail
 refine wp_move_row 53 (.tmp 3) (.tmp 2) (.tmp 135) rfl rfl rfl rfl Q w.heap.size rfl 53 #[.int .i64 4, .int .i64 (place l E p), .string nm, .string ⟨#[]⟩, .int .i64 0, .int .i64 0, .int .i64 0, .string ⟨#[]⟩, .slice none 0 0, .int .i64 0, .int .i64 0, .int .i64 0, .string ⟨#[]⟩, .slice none 0 0, .slice none 0 0, .slice none 0 0, .slice none 0 0] #[.int .i64 0, .int .i64 0, .string ⟨#[]⟩, .string ⟨#[]⟩, .int .i64 0, .int .i64 0, .int .i64 0, .string ⟨#[]⟩, .slice none 0 0, .int .i64 0, .int .i64 0, .int .i64 0, .string ⟨#[]⟩, .slice none 0 0, .slice none 0 0, .slice none 0 0, .slice none 0 0] HS.out.2.1 HS.out.2.2.1 rfl rfl _ Tryz.underlying53 rfl (by kernel_rfl) rfl (by simp [Value.oneCell']) ?_
 have HF := Hi_ (HS.out.row #[.int .i64 4, .int .i64 (place l E p), .string nm, .string ⟨#[]⟩, .int .i64 0, .int .i64 0, .int .i64 0, .string ⟨#[]⟩, .slice none 0 0, .int .i64 0, .int .i64 0, .int .i64 0, .string ⟨#[]⟩, .slice none 0 0, .slice none 0 0, .slice none 0 0, .slice none 0 0])
 generalize World.setRow _ _ _ = W99 at *
 go_wp2
 have hlt3 := HF.out.lt
 refine bodyPost_ret (v := .agg #[.int .i64 4, .int .i64 (place l E p), .string nm, .string ⟨#[]⟩, .int .i64 0, .int .i64 0, .int .i64 0, .string ⟨#[]⟩, .slice none 0 0, .int .i64 0, .int .i64 0, .int .i64 0, .string ⟨#[]⟩, .slice none 0 0, .slice none 0 0, .slice none 0 0, .slice none 0 0]) (results_cell_row rfl _ _ w.heap.size 53 #[.int .i64 4, .int .i64 (place l E p), .string nm, .string ⟨#[]⟩, .int .i64 0, .int .i64 0, .int .i64 0, .string ⟨#[]⟩, .slice none 0 0, .int .i64 0, .int .i64 0, .int .i64 0, .string ⟨#[]⟩, .slice none 0 0, .slice none 0 0, .slice none 0 0, .slice none 0 0] (0, 0) _ rfl HF.out.2.2.1 Tryz.underlying53 rfl (by kernel_rfl)) rfl (.mk HEQ.out HF.out.grew HF.out.1 ?_)
 exact TCR.shut hns (Nat.zero_le _) (Nat.zero_le _) (Nat.zero_le _) (Sl.nil_ _ _) (Sl.nil_ _ _) (Sl.nil_ _ _) (Sl.nil_ _ _) (Sl.nil_ _ _)
set_option maxRecDepth 20000 in
set_option maxHeartbeats 4000000 in
theorem cmd_set0 (l : List Tok) (lv : Value) (E g : Nat) (blk : RS → List TC × RS) (p : Nat) (w0 w : World) (hl : Sl tokR w0 lv l) (hn : l.length ≤ 6000) (hok : ∀ t ∈ l, TokOk t) (hm : ∀ t ∈ l, t.text.size ≤ maxLen) (hg : w0.heap.size ≤ g) (hp : p ≤ l.length) (h0 : Bel w0 w) (h : Rd w g lv p E false)
  (h1 : tx l p false ≠ printB) (h2 : tx l p false ≠ ifB) (h3 : tx l p false ≠ whileB) (h4 : tx l (nameD l (p, false)).2.1 (nameD l (p, false)).2.2 ≠ lsqB) (h5 : tx l (needD l eqB (nameD l (p, false)).2).1 (needD l eqB (nameD l (p, false)).2).2 ≠ readB) (h6 : isName (tx l (needD l eqB (nameD l (p, false)).2).1 (needD l eqB (nameD l (p, false)).2).2) = false) :
  Calls Tryz.prog 94 #[.pointer (some ⟨g, 0, none⟩)] w fun r w' => CmdRes w g lv E (cmdD l E blk (p, false)) r w' := by
 have HHE := Hi_ (here_any l lv p E g false (w.alloc (.cells #[.int .i64 0, .int .i64 0, .string ⟨#[]⟩, .string ⟨#[]⟩, .int .i64 0, .int .i64 0, .int .i64 0, .string ⟨#[]⟩, .slice none 0 0, .int .i64 0, .int .i64 0, .int .i64 0, .string ⟨#[]⟩, .slice none 0 0, .slice none 0 0, .slice none 0 0, .slice none 0 0] 53)) ((hl.keep h0).keep ((Bel.rfl_ w).al _)) hn (h.keep ((Bel.rfl_ w).al _)))
 have HTX := Hi_ (jTX (g := g) (E := E) hl hn)
 have HT1 := Hi_ (jT1 (g := g) (E := E) hl hn)
 have HND := Hi_ (jND (g := g) (E := E) hl hn)
 have HNA := Hi_ (jNA (g := g) (E := E) hl hn hm)
 have HEX := Hi_ (fun W (q : RS) (hb : Bel w0 W) (hq : q.1 ≤ l.length) (h : Rd W g lv q.1 E q.2) => expr_all l lv E g w0 hl hn hok hm hg 60 q 0 W (by omega) (by omega) hq hb h)
 have eP : ((tx l p false).toList == [112, 114, 105, 110, 116]) = false := lit_false h1
 have eI : ((tx l p false).toList == [105, 102]) = false := lit_false h2
 have eW : ((tx l p false).toList == [119, 104, 105, 108, 101]) = false := lit_false h3
 have hns := name_size (l := l) (q := (p, false)) hm
 have hp1 := nameD_le (q := (p, false)) hp
 have HEQ := Hi_ (cmdD_set (E := E) (blk := blk) h1 h2 h3 h4 h5 (fun e => by rw [h6] at e; exact absurd e.1 (by decide)))
 have eL : ((tx l (nameD l (p, false)).2.1 (nameD l (p, false)).2.2).toList == [91]) = false := lit_false h4
 have eR : ((tx l (needD l eqB (nameD l (p, false)).2).1 (needD l eqB (nameD l (p, false)).2).2).toList == [114, 101, 97, 100]) = false := lit_false h5
 have hp2 := needD_le (l := l) (s := eqB) (by decide) hp1
 have hp3 := exprD_le (E := E) hok 60 _ hp2
 have HIS := Hi_ (fun W => isName_any (tx l (needD l eqB (nameD l (p, false)).2).1 (needD l eqB (nameD l (p, false)).2).2) W (tok_max hm))
 rw [h6] at HIS
 clear h1 h2 h3 h4 h5 h6
 go_enter Tryz.func94, Tryz.ntmps94
 go_wp2_with fail
 refine HHE.out.mono ?_
 rintro r w1 ⟨rfl, hb⟩
 have HS := Hi_ (Bld.start (r := (p, false)) h 53 #[.int .i64 0, .int .i64 0, .string ⟨#[]⟩, .string ⟨#[]⟩, .int .i64 0, .int .i64 0, .int .i64 0, .string ⟨#[]⟩, .slice none 0 0, .int .i64 0, .int .i64 0, .int .i64 0, .string ⟨#[]⟩, .slice none 0 0, .slice none 0 0, .slice none 0 0, .slice none 0 0] #[.int .i64 0, .int .i64 (place l E p), .string ⟨#[]⟩, .string ⟨#[]⟩, .int .i64 0, .int .i64 0, .int .i64 0, .string ⟨#[]⟩, .slice none 0 0, .int .i64 0, .int .i64 0, .int .i64 0, .string ⟨#[]⟩, .slice none 0 0, .slice none 0 0, .slice none 0 0, .slice none 0 0] hb)
 clear hb HHE h
 go_upto_region 2 with fail
 generalize w1.alloc (.cells #[.int .i64 0, .int .i64 (place l E p), .string ⟨#[]⟩, .string ⟨#[]⟩, .int .i64 0, .int .i64 0, .int .i64 0, .string ⟨#[]⟩, .slice none 0 0, .int .i64 0, .int .i64 0, .int .i64 0, .string ⟨#[]⟩, .slice none 0 0, .slice none 0 0, .slice none 0 0, .slice none 0 0] 53) = W2 at *
 generalize w1.heap.size = Q at *
 go_wp2_with fail
 refine (HTX.out _ (p, false) (HS.out.bel h0 hg) hp HS.out.1).mono ?_
 rintro r w2 ⟨rfl, hb⟩
 replace HS := Hi_ (HS.out.keep hb)
 clear hb
 go_wp2_with fail
 refine (HNA.out _ (p, false) (HS.out.bel h0 hg) hp HS.out.1).mono ?_
 rintro r w4 ⟨rfl, hrN, hgN⟩
 replace HS := Hi_ (HS.out.grown hgN hrN)
 clear hrN hgN
 generalize nameD l (p, false) = nn at *
 obtain ⟨nm, q1⟩ := nn
 dsimp only at *
 have c2 := HS.out.cell 2 (v := .string ⟨#[]⟩) rfl
 have g2 := HS.out.frozen 2
 go_upto_region 22 with fail
 replace HS := Hi_ ((HS.out.put 2 (.string nm)).to (cs' := #[.int .i64 0, .int .i64 (place l E p), .string nm, .string ⟨#[]⟩, .int .i64 0, .int .i64 0, .int .i64 0, .string ⟨#[]⟩, .slice none 0 0, .int .i64 0, .int .i64 0, .int .i64 0, .string ⟨#[]⟩, .slice none 0 0, .slice none 0 0, .slice none 0 0, .slice none 0 0]) rfl)
 generalize HW1 : World.setCell _ _ _ = V1 at *
 clear HW1 c2 g2
 go_wp2_with fail
 refine (HTX.out _ q1 (HS.out.bel h0 hg) hp1 HS.out.1).mono ?_
 rintro r w5 ⟨rfl, hb⟩
 replace HS := Hi_ (HS.out.keep hb)
 clear hb
 go_wp2_with fail
 refine (HND.out _ q1 ⟨#[61]⟩ (HS.out.bel h0 hg) hp1 HS.out.1).mono ?_
 rintro r w6 ⟨⟨v6, rfl⟩, hrN, hgN⟩
 replace HS := Hi_ (HS.out.grown (r' := needD l eqB q1) hgN hrN)
 clear hrN hgN
 generalize needD l eqB q1 = q2 at *
 go_wp2_with fail
 refine (HTX.out _ q2 (HS.out.bel h0 hg) hp2 HS.out.1).mono ?_
 rintro r w7 ⟨rfl, hb⟩
 replace HS := Hi_ (HS.out.keep hb)
 clear hb
 go_wp2_with fail
 refine (HTX.out _ q2 (HS.out.bel h0 hg) hp2 HS.out.1).mono ?_
 rintro r w8 ⟨rfl, hb⟩
 replace HS := Hi_ (HS.out.keep hb)
 clear hb
 go_wp2_with fail
 refine (HIS.out _).mono ?_
 rintro r w9 ⟨rfl, hb⟩
 replace HS := Hi_ (HS.out.keep hb)
 clear hb HIS
 have c0 := HS.out.cell 0 (v := .int .i64 0) rfl
 have g0 := HS.out.frozen 0
 go_upto_region 7 with fail
 replace HS := Hi_ ((HS.out.put 0 (.int .i64 1)).to (cs' := #[.int .i64 1, .int .i64 (place l E p), .string nm, .string ⟨#[]⟩, .int .i64 0, .int .i64 0, .int .i64 0, .string ⟨#[]⟩, .slice none 0 0, .int .i64 0, .int .i64 0, .int .i64 0, .string ⟨#[]⟩, .slice none 0 0, .slice none 0 0, .slice none 0 0, .slice none 0 0]) rfl)
 generalize HW2 : World.setCell _ _ _ = V2 at *
 clear HW2 c0 g0
 go_wp2_with fail
 refine (HEX.out _ q2 (HS.out.bel h0 hg) hp2 HS.out.1).mono ?_
 rintro r w10 ⟨hgN, hrN, A10, ca10, rfl, hse, hslN⟩
 have HE := Hi_ (low_mono (B' := Q + 1) teR_more HS.out.size hslN)
 replace HS := Hi_ (HS.out.grown hgN hrN)
 clear hrN hgN hslN
 generalize exprD l E 60 q2 = x10 at *
 obtain ⟨e, q10⟩ := x10
 dsimp only at *
 have c9 := HS.out.cell 9 (v := .int .i64 0) rfl
 have g9 := HS.out.frozen 9
 have c10 := HS.out.cell 10 (v := .int .i64 0) rfl
 have g10 := HS.out.frozen 10
 have c11 := HS.out.cell 11 (v := .int .i64 0) rfl
 have g11 := HS.out.frozen 11
 have c12 := HS.out.cell 12 (v := .string ⟨#[]⟩) rfl
 have g12 := HS.out.frozen 12
 have c13 := HS.out.cell 13 (v := .slice none 0 0) rfl
 have g13 := HS.out.frozen 13
 go_upto_region 45 with fail
 replace HE := Hi_ ((((((HE.out).keep (low_set _ (i := 9) (.int .i64 e.kind) (Nat.lt_succ_self Q))).keep (low_set _ (i := 10) (.int .i64 e.at_) (Nat.lt_succ_self Q))).keep (low_set _ (i := 11) (.int .i64 e.n) (Nat.lt_succ_self Q))).keep (low_set _ (i := 12) (.string e.name) (Nat.lt_succ_self Q))).keep (low_set _ (i := 13) (.slice A10 e.args.length ca10) (Nat.lt_succ_self Q)))
 replace HS := Hi_ ((((((HS.out.put 9 (.int .i64 e.kind)).put 10 (.int .i64 e.at_)).put 11 (.int .i64 e.n)).put 12 (.string e.name)).put 13 (.slice A10 e.args.length ca10)).to (cs' := #[.int .i64 1, .int .i64 (place l E p), .string nm, .string ⟨#[]⟩, .int .i64 0, .int .i64 0, .int .i64 0, .string ⟨#[]⟩, .slice none 0 0, .int .i64 e.kind, .int .i64 e.at_, .int .i64 e.n, .string e.name, .slice A10 e.args.length ca10, .slice none 0 0, .slice none 0 0, .slice none 0 0]) rfl)
 generalize HW3 : World.setCell _ _ _ = V3 at *
 clear HW3 c9 g9 c10 g10 c11 g11 c12 g12 c13 g13
 go_wp2_with fail
 refine (HND.out _ q10 ⟨#[59]⟩ (HS.out.bel h0 hg) hp3 HS.out.1).mono ?_
 rintro r w11 ⟨⟨v11, rfl⟩, hrN, hgN⟩
 replace HE := Hi_ (HE.out.keep (low_grown hgN (by have := HS.out.lt; omega)))
 replace HS := Hi_ (HS.out.grown (r' := needD l semiB q10) hgN hrN)
 clear hrN hgN
 replace HS := Hi_ HS.out.fresh
 clear HTX HT1 HND HNA HEX eP eI eW eL eR
 go_upto_region 46 with fail
 refine wp_move_row 53 (.tmp 3) (.tmp 2) (.tmp 135) rfl rfl rfl rfl Q w.heap.size rfl 53 #[.int .i64 1, .int .i64 (place l E p), .string nm, .string ⟨#[]⟩, .int .i64 0, .int .i64 0, .int .i64 0, .string ⟨#[]⟩, .slice none 0 0, .int .i64 e.kind, .int .i64 e.at_, .int .i64 e.n, .string e.name, .slice A10 e.args.length ca10, .slice none 0 0, .slice none 0 0, .slice none 0 0] #[.int .i64 0, .int .i64 0, .string ⟨#[]⟩, .string ⟨#[]⟩, .int .i64 0, .int .i64 0, .int .i64 0, .string ⟨#[]⟩, .slice none 0 0, .int .i64 0, .int .i64 0, .int .i64 0, .string ⟨#[]⟩, .slice none 0 0, .slice none 0 0, .slice none 0 0, .slice none 0 0] HS.out.2.1 HS.out.2.2.1 rfl rfl _ Tryz.underlying53 rfl (by kernel_rfl) rfl (by simp [Value.oneCell']) ?_
 have HF := Hi_ (HS.out.row #[.int .i64 1, .int .i64 (place l E p), .string nm, .string ⟨#[]⟩, .int .i64 0, .int .i64 0, .int .i64 0, .string ⟨#[]⟩, .slice none 0 0, .int .i64 e.kind, .int .i64 e.at_, .int .i64 e.n, .string e.name, .slice A10 e.args.length ca10, .slice none 0 0, .slice none 0 0, .slice none 0 0])
 generalize World.setRow _ _ _ = W99 at *
 go_wp2
 have hlt3 := HF.out.lt
 refine bodyPost_ret (v := .agg #[.int .i64 1, .int .i64 (place l E p), .string nm, .string ⟨#[]⟩, .int .i64 0, .int .i64 0, .int .i64 0, .string ⟨#[]⟩, .slice none 0 0, .int .i64 e.kind, .int .i64 e.at_, .int .i64 e.n, .string e.name, .slice A10 e.args.length ca10, .slice none 0 0, .slice none 0 0, .slice none 0 0]) (results_cell_row rfl _ _ w.heap.size 53 #[.int .i64 1, .int .i64 (place l E p), .string nm, .string ⟨#[]⟩, .int .i64 0, .int .i64 0, .int .i64 0, .string ⟨#[]⟩, .slice none 0 0, .int .i64 e.kind, .int .i64 e.at_, .int .i64 e.n, .string e.name, .slice A10 e.args.length ca10, .slice none 0 0, .slice none 0 0, .slice none 0 0] (0, 0) _ rfl HF.out.2.2.1 Tryz.underlying53 rfl (by kernel_rfl)) rfl (.mk HEQ.out HF.out.grew HF.out.1 ?_)
 exact TCR.shut hns (Nat.zero_le _) (Nat.zero_le _) hse (Sl.nil_ _ _) (low_mono teR_more (by omega) (HE.out.keep HF.out.low_)) (Sl.nil_ _ _) (Sl.nil_ _ _) (Sl.nil_ _ _)
set_option maxRecDepth 20000 in
set_option maxHeartbeats 4000000 in
theorem cmd_set1 (l : List Tok) (lv : Value) (E g : Nat) (blk : RS → List TC × RS) (p : Nat) (w0 w : World) (hl : Sl tokR w0 lv l) (hn : l.length ≤ 6000) (hok : ∀ t ∈ l, TokOk t) (hm : ∀ t ∈ l, t.text.size ≤ maxLen) (hg : w0.heap.size ≤ g) (hp : p ≤ l.length) (h0 : Bel w0 w) (h : Rd w g lv p E false)
  (h1 : tx l p false ≠ printB) (h2 : tx l p false ≠ ifB) (h3 : tx l p false ≠ whileB) (h4 : tx l (nameD l (p, false)).2.1 (nameD l (p, false)).2.2 ≠ lsqB) (h5 : tx l (needD l eqB (nameD l (p, false)).2).1 (needD l eqB (nameD l (p, false)).2).2 ≠ readB) (h6 : isName (tx l (needD l eqB (nameD l (p, false)).2).1 (needD l eqB (nameD l (p, false)).2).2) = true) (h7 : tx1 l (needD l eqB (nameD l (p, false)).2) ≠ lparB) :
  Calls Tryz.prog 94 #[.pointer (some ⟨g, 0, none⟩)] w fun r w' => CmdRes w g lv E (cmdD l E blk (p, false)) r w' := by
 have HHE := Hi_ (here_any l lv p E g false (w.alloc (.cells #[.int .i64 0, .int .i64 0, .string ⟨#[]⟩, .string ⟨#[]⟩, .int .i64 0, .int .i64 0, .int .i64 0, .string ⟨#[]⟩, .slice none 0 0, .int .i64 0, .int .i64 0, .int .i64 0, .string ⟨#[]⟩, .slice none 0 0, .slice none 0 0, .slice none 0 0, .slice none 0 0] 53)) ((hl.keep h0).keep ((Bel.rfl_ w).al _)) hn (h.keep ((Bel.rfl_ w).al _)))
 have HTX := Hi_ (jTX (g := g) (E := E) hl hn)
 have HT1 := Hi_ (jT1 (g := g) (E := E) hl hn)
 have HND := Hi_ (jND (g := g) (E := E) hl hn)
 have HNA := Hi_ (jNA (g := g) (E := E) hl hn hm)
 have HEX := Hi_ (fun W (q : RS) (hb : Bel w0 W) (hq : q.1 ≤ l.length) (h : Rd W g lv q.1 E q.2) => expr_all l lv E g w0 hl hn hok hm hg 60 q 0 W (by omega) (by omega) hq hb h)
 have eP : ((tx l p false).toList == [112, 114, 105, 110, 116]) = false := lit_false h1
 have eI : ((tx l p false).toList == [105, 102]) = false := lit_false h2
 have eW : ((tx l p false).toList == [119, 104, 105, 108, 101]) = false := lit_false h3
 have hns := name_size (l := l) (q := (p, false)) hm
 have hp1 := nameD_le (q := (p, false)) hp
 have HEQ := Hi_ (cmdD_set (E := E) (blk := blk) h1 h2 h3 h4 h5 (fun e => h7 e.2))
 have eL : ((tx l (nameD l (p, false)).2.1 (nameD l (p, false)).2.2).toList == [91]) = false := lit_false h4
 have eR : ((tx l (needD l eqB (nameD l (p, false)).2).1 (needD l eqB (nameD l (p, false)).2).2).toList == [114, 101, 97, 100]) = false := lit_false h5
 have hp2 := needD_le (l := l) (s := eqB) (by decide) hp1
 have hp3 := exprD_le (E := E) hok 60 _ hp2
 have HIS := Hi_ (fun W => isName_any (tx l (needD l eqB (nameD l (p, false)).2).1 (needD l eqB (nameD l (p, false)).2).2) W (tok_max hm))
 rw [h6] at HIS
 have e1 : ((tx l ((needD l eqB (nameD l (p, false)).2).1 + 1) (needD l eqB (nameD l (p, false)).2).2).toList == [40]) = false := lit_false h7
 clear h1 h2 h3 h4 h5 h6 h7
 go_enter Tryz.func94, Tryz.ntmps94
 go_wp2_with fail
 refine HHE.out.mono ?_
 rintro r w1 ⟨rfl, hb⟩
 have HS := Hi_ (Bld.start (r := (p, false)) h 53 #[.int .i64 0, .int .i64 0, .string ⟨#[]⟩, .string ⟨#[]⟩, .int .i64 0, .int .i64 0, .int .i64 0, .string ⟨#[]⟩, .slice none 0 0, .int .i64 0, .int .i64 0, .int .i64 0, .string ⟨#[]⟩, .slice none 0 0, .slice none 0 0, .slice none 0 0, .slice none 0 0] #[.int .i64 0, .int .i64 (place l E p), .string ⟨#[]⟩, .string ⟨#[]⟩, .int .i64 0, .int .i64 0, .int .i64 0, .string ⟨#[]⟩, .slice none 0 0, .int .i64 0, .int .i64 0, .int .i64 0, .string ⟨#[]⟩, .slice none 0 0, .slice none 0 0, .slice none 0 0, .slice none 0 0] hb)
 clear hb HHE h
 go_upto_region 2 with fail
 generalize w1.alloc (.cells #[.int .i64 0, .int .i64 (place l E p), .string ⟨#[]⟩, .string ⟨#[]⟩, .int .i64 0, .int .i64 0, .int .i64 0, .string ⟨#[]⟩, .slice none 0 0, .int .i64 0, .int .i64 0, .int .i64 0, .string ⟨#[]⟩, .slice none 0 0, .slice none 0 0, .slice none 0 0, .slice none 0 0] 53) = W2 at *
 generalize w1.heap.size = Q at *
 go_wp2_with fail
 refine (HTX.out _ (p, false) (HS.out.bel h0 hg) hp HS.out.1).mono ?_
 rintro r w2 ⟨rfl, hb⟩
 replace HS := Hi_ (HS.out.keep hb)
 clear hb
 go_wp2_with fail
 refine (HNA.out _ (p, false) (HS.out.bel h0 hg) hp HS.out.1).mono ?_
 rintro r w4 ⟨rfl, hrN, hgN⟩
 replace HS := Hi_ (HS.out.grown hgN hrN)
 clear hrN hgN
 generalize nameD l (p, false) = nn at *
 obtain ⟨nm, q1⟩ := nn
 dsimp only at *
 have c2 := HS.out.cell 2 (v := .string ⟨#[]⟩) rfl
 have g2 := HS.out.frozen 2
 go_upto_region 22 with fail
 replace HS := Hi_ ((HS.out.put 2 (.string nm)).to (cs' := #[.int .i64 0, .int .i64 (place l E p), .string nm, .string ⟨#[]⟩, .int .i64 0, .int .i64 0, .int .i64 0, .string ⟨#[]⟩, .slice none 0 0, .int .i64 0, .int .i64 0, .int .i64 0, .string ⟨#[]⟩, .slice none 0 0, .slice none 0 0, .slice none 0 0, .slice none 0 0]) rfl)
 generalize HW1 : World.setCell _ _ _ = V1 at *
 clear HW1 c2 g2
 go_wp2_with fail
 refine (HTX.out _ q1 (HS.out.bel h0 hg) hp1 HS.out.1).mono ?_
 rintro r w5 ⟨rfl, hb⟩
 replace HS := Hi_ (HS.out.keep hb)
 clear hb
 go_wp2_with fail
 refine (HND.out _ q1 ⟨#[61]⟩ (HS.out.bel h0 hg) hp1 HS.out.1).mono ?_
 rintro r w6 ⟨⟨v6, rfl⟩, hrN, hgN⟩
 replace HS := Hi_ (HS.out.grown (r' := needD l eqB q1) hgN hrN)
 clear hrN hgN
 generalize needD l eqB q1 = q2 at *
 go_wp2_with fail
 refine (HTX.out _ q2 (HS.out.bel h0 hg) hp2 HS.out.1).mono ?_
 rintro r w7 ⟨rfl, hb⟩
 replace HS := Hi_ (HS.out.keep hb)
 clear hb
 go_wp2_with fail
 refine (HTX.out _ q2 (HS.out.bel h0 hg) hp2 HS.out.1).mono ?_
 rintro r w8 ⟨rfl, hb⟩
 replace HS := Hi_ (HS.out.keep hb)
 clear hb
 go_wp2_with fail
 refine (HIS.out _).mono ?_
 rintro r w9 ⟨rfl, hb⟩
 replace HS := Hi_ (HS.out.keep hb)
 clear hb HIS
 go_wp2_with fail
 refine (HT1.out _ q2 (HS.out.bel h0 hg) hp2 HS.out.1).mono ?_
 rintro r w10 ⟨rfl, hb⟩
 replace HS := Hi_ (HS.out.keep hb)
 clear hb
 have c0 := HS.out.cell 0 (v := .int .i64 0) rfl
 have g0 := HS.out.frozen 0
 go_upto_region 7 with fail
 replace HS := Hi_ ((HS.out.put 0 (.int .i64 1)).to (cs' := #[.int .i64 1, .int .i64 (place l E p), .string nm, .string ⟨#[]⟩, .int .i64 0, .int .i64 0, .int .i64 0, .string ⟨#[]⟩, .slice none 0 0, .int .i64 0, .int .i64 0, .int .i64 0, .string ⟨#[]⟩, .slice none 0 0, .slice none 0 0, .slice none 0 0, .slice none 0 0]) rfl)
 generalize HW2 : World.setCell _ _ _ = V2 at *
 clear HW2 c0 g0
 go_wp2_with fail
 refine (HEX.out _ q2 (HS.out.bel h0 hg) hp2 HS.out.1).mono ?_
 rintro r w11 ⟨hgN, hrN, A11, ca11, rfl, hse, hslN⟩
 have HE := Hi_ (low_mono (B' := Q + 1) teR_more HS.out.size hslN)
 replace HS := Hi_ (HS.out.grown hgN hrN)
 clear hrN hgN hslN
 generalize exprD l E 60 q2 = x11 at *
 obtain ⟨e, q11⟩ := x11
 dsimp only at *
 have c9 := HS.out.cell 9 (v := .int .i64 0) rfl
 have g9 := HS.out.frozen 9
 have c10 := HS.out.cell 10 (v := .int .i64 0) rfl
 have g10 := HS.out.frozen 10
 have c11 := HS.out.cell 11 (v := .int .i64 0) rfl
 have g11 := HS.out.frozen 11
 have c12 := HS.out.cell 12 (v := .string ⟨#[]⟩) rfl
 have g12 := HS.out.frozen 12
 have c13 := HS.out.cell 13 (v := .slice none 0 0) rfl
 have g13 := HS.out.frozen 13
 go_upto_region 45 with fail
 replace HE := Hi_ ((((((HE.out).keep (low_set _ (i := 9) (.int .i64 e.kind) (Nat.lt_succ_self Q))).keep (low_set _ (i := 10) (.int .i64 e.at_) (Nat.lt_succ_self Q))).keep (low_set _ (i := 11) (.int .i64 e.n) (Nat.lt_succ_self Q))).keep (low_set _ (i := 12) (.string e.name) (Nat.lt_succ_self Q))).keep (low_set _ (i := 13) (.slice A11 e.args.length ca11) (Nat.lt_succ_self Q)))
 replace HS := Hi_ ((((((HS.out.put 9 (.int .i64 e.kind)).put 10 (.int .i64 e.at_)).put 11 (.int .i64 e.n)).put 12 (.string e.name)).put 13 (.slice A11 e.args.length ca11)).to (cs' := #[.int .i64 1, .int .i64 (place l E p), .string nm, .string ⟨#[]⟩, .int .i64 0, .int .i64 0, .int .i64 0, .string ⟨#[]⟩, .slice none 0 0, .int .i64 e.kind, .int .i64 e.at_, .int .i64 e.n, .string e.name, .slice A11 e.args.length ca11, .slice none 0 0, .slice none 0 0, .slice none 0 0]) rfl)
 generalize HW3 : World.setCell _ _ _ = V3 at *
 clear HW3 c9 g9 c10 g10 c11 g11 c12 g12 c13 g13
 go_wp2_with fail
 refine (HND.out _ q11 ⟨#[59]⟩ (HS.out.bel h0 hg) hp3 HS.out.1).mono ?_
 rintro r w12 ⟨⟨v12, rfl⟩, hrN, hgN⟩
 replace HE := Hi_ (HE.out.keep (low_grown hgN (by have := HS.out.lt; omega)))
 replace HS := Hi_ (HS.out.grown (r' := needD l semiB q11) hgN hrN)
 clear hrN hgN
 replace HS := Hi_ HS.out.fresh
 clear HTX HT1 HND HNA HEX eP eI eW eL eR
 go_upto_region 46 with fail
 refine wp_move_row 53 (.tmp 3) (.tmp 2) (.tmp 135) rfl rfl rfl rfl Q w.heap.size rfl 53 #[.int .i64 1, .int .i64 (place l E p), .string nm, .string ⟨#[]⟩, .int .i64 0, .int .i64 0, .int .i64 0, .string ⟨#[]⟩, .slice none 0 0, .int .i64 e.kind, .int .i64 e.at_, .int .i64 e.n, .string e.name, .slice A11 e.args.length ca11, .slice none 0 0, .slice none 0 0, .slice none 0 0] #[.int .i64 0, .int .i64 0, .string ⟨#[]⟩, .string ⟨#[]⟩, .int .i64 0, .int .i64 0, .int .i64 0, .string ⟨#[]⟩, .slice none 0 0, .int .i64 0, .int .i64 0, .int .i64 0, .string ⟨#[]⟩, .slice none 0 0, .slice none 0 0, .slice none 0 0, .slice none 0 0] HS.out.2.1 HS.out.2.2.1 rfl rfl _ Tryz.underlying53 rfl (by kernel_rfl) rfl (by simp [Value.oneCell']) ?_
 have HF := Hi_ (HS.out.row #[.int .i64 1, .int .i64 (place l E p), .string nm, .string ⟨#[]⟩, .int .i64 0, .int .i64 0, .int .i64 0, .string ⟨#[]⟩, .slice none 0 0, .int .i64 e.kind, .int .i64 e.at_, .int .i64 e.n, .string e.name, .slice A11 e.args.length ca11, .slice none 0 0, .slice none 0 0, .slice none 0 0])
 generalize World.setRow _ _ _ = W99 at *
 go_wp2
 have hlt3 := HF.out.lt
 refine bodyPost_ret (v := .agg #[.int .i64 1, .int .i64 (place l E p), .string nm, .string ⟨#[]⟩, .int .i64 0, .int .i64 0, .int .i64 0, .string ⟨#[]⟩, .slice none 0 0, .int .i64 e.kind, .int .i64 e.at_, .int .i64 e.n, .string e.name, .slice A11 e.args.length ca11, .slice none 0 0, .slice none 0 0, .slice none 0 0]) (results_cell_row rfl _ _ w.heap.size 53 #[.int .i64 1, .int .i64 (place l E p), .string nm, .string ⟨#[]⟩, .int .i64 0, .int .i64 0, .int .i64 0, .string ⟨#[]⟩, .slice none 0 0, .int .i64 e.kind, .int .i64 e.at_, .int .i64 e.n, .string e.name, .slice A11 e.args.length ca11, .slice none 0 0, .slice none 0 0, .slice none 0 0] (0, 0) _ rfl HF.out.2.2.1 Tryz.underlying53 rfl (by kernel_rfl)) rfl (.mk HEQ.out HF.out.grew HF.out.1 ?_)
 exact TCR.shut hns (Nat.zero_le _) (Nat.zero_le _) hse (Sl.nil_ _ _) (low_mono teR_more (by omega) (HE.out.keep HF.out.low_)) (Sl.nil_ _ _) (Sl.nil_ _ _) (Sl.nil_ _ _)
end Go.Proofs.YtmfjlcpjemccmaaGreatDoor
