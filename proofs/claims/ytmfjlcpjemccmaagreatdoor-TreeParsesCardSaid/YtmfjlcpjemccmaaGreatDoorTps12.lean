/- The document's reader of print: walked. Each lemma states its own conditions. -/
import Derived.Test.YtmfjlcpjemccmaaGreatDoorTps10
namespace Go.Proofs.YtmfjlcpjemccmaaGreatDoor
open Go.RowKit
set_option maxRecDepth 20000 in
set_option maxHeartbeats 4000000 in
theorem cmd_print (l : List Tok) (lv : Value) (E g : Nat) (blk : RS → List TC × RS) (p : Nat) (w0 w : World) (hl : Sl tokR w0 lv l) (hn : l.length ≤ 6000) (hok : ∀ t ∈ l, TokOk t) (hm : ∀ t ∈ l, t.text.size ≤ maxLen) (hg : w0.heap.size ≤ g) (hp : p ≤ l.length) (h0 : Bel w0 w) (h : Rd w g lv p E false)
  (h1 : tx l p false = printB) :
  Calls Tryz.prog 94 #[.pointer (some ⟨g, 0, none⟩)] w fun r w' => CmdRes w g lv E (cmdD l E blk (p, false)) r w' := by
 have HHE := Hi_ (here_any l lv p E g false (w.alloc (.cells #[.int .i64 0, .int .i64 0, .string ⟨#[]⟩, .string ⟨#[]⟩, .int .i64 0, .int .i64 0, .int .i64 0, .string ⟨#[]⟩, .slice none 0 0, .int .i64 0, .int .i64 0, .int .i64 0, .string ⟨#[]⟩, .slice none 0 0, .slice none 0 0, .slice none 0 0, .slice none 0 0] 53)) ((hl.keep h0).keep ((Bel.rfl_ w).al _)) hn (h.keep ((Bel.rfl_ w).al _)))
 have HTX := Hi_ (jTX (g := g) (E := E) hl hn)
 have HT1 := Hi_ (jT1 (g := g) (E := E) hl hn)
 have HND := Hi_ (jND (g := g) (E := E) hl hn)
 have HNA := Hi_ (jNA (g := g) (E := E) hl hn hm)
 have HEX := Hi_ (fun W (q : RS) (hb : Bel w0 W) (hq : q.1 ≤ l.length) (h : Rd W g lv q.1 E q.2) => expr_all l lv E g w0 hl hn hok hm hg 60 q 0 W (by omega) (by omega) hq hb h)
 have eP : ((tx l p false).toList == [112, 114, 105, 110, 116]) = true := lit_true h1
 have HEQ := Hi_ (cmdD_print (E := E) (blk := blk) h1)
 have hp1 := needD_le (l := l) (q := (p, false)) (fun e => absurd (h1.symm.trans e) (by decide)) hp
 have hp2 := exprD_le (E := E) hok 60 _ hp1
 clear h1
 go_enter Tryz.func94, Tryz.ntmps94
 go_wp2_with fail
 refine HHE.out.mono ?_
 rintro r w1 ⟨rfl, hb⟩
 have HS := Hi_ (Bld.start (r := (p, false)) h 53 #[.int .i64 0, .int .i64 0, .string ⟨#[]⟩, .string ⟨#[]⟩, .int .i64 0, .int .i64 0, .int .i64 0, .string ⟨#[]⟩, .slice none 0 0, .int .i64 0, .int .i64 0, .int .i64 0, .string ⟨#[]⟩, .slice none 0 0, .slice none 0 0, .slice none 0 0, .slice none 0 0] #[.int .i64 0, .int .i64 (place l E p), .string ⟨#[]⟩, .string ⟨#[]⟩, .int .i64 0, .int .i64 0, .int .i64 0, .string ⟨#[]⟩, .slice none 0 0, .int .i64 0, .int .i64 0, .int .i64 0, .string ⟨#[]⟩, .slice none 0 0, .slice none 0 0, .slice none 0 0, .slice none 0 0] hb)
 clear hb HHE h
 go_upto_region 2 with fail
 generalize w1.alloc (.cells #[.int .i64 0, .int .i64 (place l E p), .string ⟨#[]⟩, .string ⟨#[]⟩, .int .i64 0, .int .i64 0, .int .i64 0, .string ⟨#[]⟩, .slice none 0 0, .int .i64 0, .int .i64 0, .int .i64 0, .string ⟨#[]⟩, .slice none 0 0, .slice none 0 0, .slice none 0 0, .slice none 0 0] 53) = W2 at *
 generalize w1.heap.size = Q at *
 go_wp2_with fail
 refine (HTX.out _ (p, false) (HS.out.bel h0 hg) hp HS.out.1).mono ?_
 rintro r w2 ⟨rfl, hb⟩
 replace HS := Hi_ (HS.out.keep hb)
 clear hb
 have c0 := HS.out.cell 0 (v := .int .i64 0) rfl
 have g0 := HS.out.frozen 0
 go_upto_region 31 with fail
 replace HS := Hi_ ((HS.out.put 0 (.int .i64 5)).to (cs' := #[.int .i64 5, .int .i64 (place l E p), .string ⟨#[]⟩, .string ⟨#[]⟩, .int .i64 0, .int .i64 0, .int .i64 0, .string ⟨#[]⟩, .slice none 0 0, .int .i64 0, .int .i64 0, .int .i64 0, .string ⟨#[]⟩, .slice none 0 0, .slice none 0 0, .slice none 0 0, .slice none 0 0]) rfl)
 generalize HW1 : World.setCell _ _ _ = V1 at *
 clear HW1 c0 g0
 go_wp2_with fail
 refine (HND.out _ (p, false) (tx l p false) (HS.out.bel h0 hg) hp HS.out.1).mono ?_
 rintro r w4 ⟨⟨v4, rfl⟩, hrN, hgN⟩
 replace HS := Hi_ (HS.out.grown (r' := needD l (tx l p false) (p, false)) hgN hrN)
 clear hrN hgN
 generalize needD l (tx l p false) (p, false) = q1 at *
 go_wp2_with fail
 refine (HEX.out _ q1 (HS.out.bel h0 hg) hp1 HS.out.1).mono ?_
 rintro r w5 ⟨hgN, hrN, A5, ca5, rfl, hse, hslN⟩
 have HE := Hi_ (low_mono (B' := Q + 1) teR_more HS.out.size hslN)
 replace HS := Hi_ (HS.out.grown hgN hrN)
 clear hrN hgN hslN
 generalize exprD l E 60 q1 = x5 at *
 obtain ⟨e, q5⟩ := x5
 dsimp only at *
 have c9 := HS.out.cell 9 (v := .int .i64 0) rfl
 have g9 := HS.out.frozen 9
 have c10 := HS.out.cell 10 (v := .int .i64 0) rfl
 have g10 := HS.out.frozen 10
 have c11 := HS.out.cell 11 (v := .int .i64 0) rfl
 have g11 := HS.out.frozen 11
 have c12 := HS.out.cell 12 (v := .string ⟨#[]⟩) rfl
 have g12 := HS.out.frozen 12
 have c13 := HS.out.cell 13 (v := .slice none 0 0) rfl
 have g13 := HS.out.frozen 13
 go_upto_region 45 with fail
 replace HE := Hi_ ((((((HE.out).keep (low_set _ (i := 9) (.int .i64 e.kind) (Nat.lt_succ_self Q))).keep (low_set _ (i := 10) (.int .i64 e.at_) (Nat.lt_succ_self Q))).keep (low_set _ (i := 11) (.int .i64 e.n) (Nat.lt_succ_self Q))).keep (low_set _ (i := 12) (.string e.name) (Nat.lt_succ_self Q))).keep (low_set _ (i := 13) (.slice A5 e.args.length ca5) (Nat.lt_succ_self Q)))
 replace HS := Hi_ ((((((HS.out.put 9 (.int .i64 e.kind)).put 10 (.int .i64 e.at_)).put 11 (.int .i64 e.n)).put 12 (.string e.name)).put 13 (.slice A5 e.args.length ca5)).to (cs' := #[.int .i64 5, .int .i64 (place l E p), .string ⟨#[]⟩, .string ⟨#[]⟩, .int .i64 0, .int .i64 0, .int .i64 0, .string ⟨#[]⟩, .slice none 0 0, .int .i64 e.kind, .int .i64 e.at_, .int .i64 e.n, .string e.name, .slice A5 e.args.length ca5, .slice none 0 0, .slice none 0 0, .slice none 0 0]) rfl)
 generalize HW2 : World.setCell _ _ _ = V2 at *
 clear HW2 c9 g9 c10 g10 c11 g11 c12 g12 c13 g13
 go_wp2_with fail
 refine (HND.out _ q5 ⟨#[59]⟩ (HS.out.bel h0 hg) hp2 HS.out.1).mono ?_
 rintro r w6 ⟨⟨v6, rfl⟩, hrN, hgN⟩
 replace HE := Hi_ (HE.out.keep (low_grown hgN (by have := HS.out.lt; omega)))
 replace HS := Hi_ (HS.out.grown (r' := needD l semiB q5) hgN hrN)
 clear hrN hgN
 replace HS := Hi_ HS.out.fresh
 clear HTX HT1 HND HNA HEX eP
 go_upto_region 46 with fail
 refine wp_move_row 53 (.tmp 3) (.tmp 2) (.tmp 135) rfl rfl rfl rfl Q w.heap.size rfl 53 #[.int .i64 5, .int .i64 (place l E p), .string ⟨#[]⟩, .string ⟨#[]⟩, .int .i64 0, .int .i64 0, .int .i64 0, .string ⟨#[]⟩, .slice none 0 0, .int .i64 e.kind, .int .i64 e.at_, .int .i64 e.n, .string e.name, .slice A5 e.args.length ca5, .slice none 0 0, .slice none 0 0, .slice none 0 0] #[.int .i64 0, .int .i64 0, .string ⟨#[]⟩, .string ⟨#[]⟩, .int .i64 0, .int .i64 0, .int .i64 0, .string ⟨#[]⟩, .slice none 0 0, .int .i64 0, .int .i64 0, .int .i64 0, .string ⟨#[]⟩, .slice none 0 0, .slice none 0 0, .slice none 0 0, .slice none 0 0] HS.out.2.1 HS.out.2.2.1 rfl rfl _ Tryz.underlying53 rfl (by kernel_rfl) rfl (by simp [Value.oneCell']) ?_
 have HF := Hi_ (HS.out.row #[.int .i64 5, .int .i64 (place l E p), .string ⟨#[]⟩, .string ⟨#[]⟩, .int .i64 0, .int .i64 0, .int .i64 0, .string ⟨#[]⟩, .slice none 0 0, .int .i64 e.kind, .int .i64 e.at_, .int .i64 e.n, .string e.name, .slice A5 e.args.length ca5, .slice none 0 0, .slice none 0 0, .slice none 0 0])
 generalize World.setRow _ _ _ = W99 at *
 go_wp2
 have hlt3 := HF.out.lt
 refine bodyPost_ret (v := .agg #[.int .i64 5, .int .i64 (place l E p), .string ⟨#[]⟩, .string ⟨#[]⟩, .int .i64 0, .int .i64 0, .int .i64 0, .string ⟨#[]⟩, .slice none 0 0, .int .i64 e.kind, .int .i64 e.at_, .int .i64 e.n, .string e.name, .slice A5 e.args.length ca5, .slice none 0 0, .slice none 0 0, .slice none 0 0]) (results_cell_row rfl _ _ w.heap.size 53 #[.int .i64 5, .int .i64 (place l E p), .string ⟨#[]⟩, .string ⟨#[]⟩, .int .i64 0, .int .i64 0, .int .i64 0, .string ⟨#[]⟩, .slice none 0 0, .int .i64 e.kind, .int .i64 e.at_, .int .i64 e.n, .string e.name, .slice A5 e.args.length ca5, .slice none 0 0, .slice none 0 0, .slice none 0 0] (0, 0) _ rfl HF.out.2.2.1 Tryz.underlying53 rfl (by kernel_rfl)) rfl (.mk HEQ.out HF.out.grew HF.out.1 ?_)
 exact TCR.shut (Nat.zero_le _) (Nat.zero_le _) (Nat.zero_le _) hse (Sl.nil_ _ _) (low_mono teR_more (by omega) (HE.out.keep HF.out.low_)) (Sl.nil_ _ _) (Sl.nil_ _ _) (Sl.nil_ _ _)
end Go.Proofs.YtmfjlcpjemccmaaGreatDoor
