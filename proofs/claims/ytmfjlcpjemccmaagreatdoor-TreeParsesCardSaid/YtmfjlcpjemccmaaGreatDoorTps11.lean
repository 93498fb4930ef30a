/- The document's reader of a call: walked. Each lemma states its own conditions. -/
import Derived.Test.YtmfjlcpjemccmaaGreatDoorTps10
namespace Go.Proofs.YtmfjlcpjemccmaaGreatDoor
open Go.RowKit
set_option maxRecDepth 20000 in
set_option maxHeartbeats 4000000 in
theorem cmd_call (l : List Tok) (lv : Value) (E g : Nat) (blk : RS → List TC × RS) (p : Nat) (w0 w : World) (hl : Sl tokR w0 lv l) (hn : l.length ≤ 6000) (hok : ∀ t ∈ l, TokOk t) (hm : ∀ t ∈ l, t.text.size ≤ maxLen) (hg : w0.heap.size ≤ g) (hp : p ≤ l.length) (h0 : Bel w0 w) (h : Rd w g lv p E false)
  (h1 : tx l p false ≠ printB) (h2 : tx l p false ≠ ifB) (h3 : tx l p false ≠ whileB) (h4 : tx l (nameD l (p, false)).2.1 (nameD l (p, false)).2.2 ≠ lsqB) (h5 : tx l (needD l eqB (nameD l (p, false)).2).1 (needD l eqB (nameD l (p, false)).2).2 ≠ readB) (h6 : isName (tx l (needD l eqB (nameD l (p, false)).2).1 (needD l eqB (nameD l (p, false)).2).2) = true) (h7 : tx1 l (needD l eqB (nameD l (p, false)).2) = lparB) :
  Calls Tryz.prog 94 #[.pointer (some ⟨g, 0, none⟩)] w fun r w' => CmdRes w g lv E (cmdD l E blk (p, false)) r w' := by
 have HHE := Hi_ (here_any l lv p E g false (w.alloc (.cells #[.int .i64 0, .int .i64 0, .string ⟨#[]⟩, .string ⟨#[]⟩, .int .i64 0, .int .i64 0, .int .i64 0, .string ⟨#[]⟩, .slice none 0 0, .int .i64 0, .int .i64 0, .int .i64 0, .string ⟨#[]⟩, .slice none 0 0, .slice none 0 0, .slice none 0 0, .slice none 0 0] 53)) ((hl.keep h0).keep ((Bel.rfl_ w).al _)) hn (h.keep ((Bel.rfl_ w).al _)))
 have HTX := Hi_ (jTX (g := g) (E := E) hl hn)
 have HT1 := Hi_ (jT1 (g := g) (E := E) hl hn)
 have HND := Hi_ (jND (g := g) (E := E) hl hn)
 have HNA := Hi_ (jNA (g := g) (E := E) hl hn hm)
 have HEX := Hi_ (fun W (q : RS) (hb : Bel w0 W) (hq : q.1 ≤ l.length) (h : Rd W g lv q.1 E q.2) => expr_all l lv E g w0 hl hn hok hm hg 60 q 0 W (by omega) (by omega) hq hb h)
 have eP : ((tx l p false).toList == [112, 114, 105, 110, 116]) = false := lit_false h1
 have eI : ((tx l p false).toList == [105, 102]) = false := lit_false h2
 have eW : ((tx l p false).toList == [119, 104, 105, 108, 101]) = false := lit_false h3
 have hns := name_size (l := l) (q := (p, false)) hm
 have hno := name_size (l := l) (q := (needD l eqB (nameD l (p, false)).2)) hm
 have hp1 := nameD_le (q := (p, false)) hp
 have HEQ := Hi_ (cmdD_call (E := E) (blk := blk) h1 h2 h3 h4 h5 ⟨h6, h7⟩)
 have eL : ((tx l (nameD l (p, false)).2.1 (nameD l (p, false)).2.2).toList == [91]) = false := lit_false h4
 have eR : ((tx l (needD l eqB (nameD l (p, false)).2).1 (needD l eqB (nameD l (p, false)).2).2).toList == [114, 101, 97, 100]) = false := lit_false h5
 have hp2 := needD_le (l := l) (s := eqB) (by decide) hp1
 have hp3 := nameD_le (q := (needD l eqB (nameD l (p, false)).2)) hp2
 have hp4 := needD_le (l := l) (s := lparB) (by decide) hp3
 have HIS := Hi_ (fun W => isName_any (tx l (needD l eqB (nameD l (p, false)).2).1 (needD l eqB (nameD l (p, false)).2).2) W (tok_max hm))
 rw [h6] at HIS
 have e1 : ((tx l ((needD l eqB (nameD l (p, false)).2).1 + 1) (needD l eqB (nameD l (p, false)).2).2).toList == [40]) = true := lit_true h7
 clear h1 h2 h3 h4 h5 h6 h7
 go_enter Tryz.func94, Tryz.ntmps94
 go_wp2_with fail
 refine HHE.out.mono ?_
 rintro r w1 ⟨rfl, hb⟩
 have HS := Hi_ (Bld.start (r := (p, false)) h 53 #[.int .i64 0, .int .i64 0, .string ⟨#[]⟩, .string ⟨#[]⟩, .int .i64 0, .int .i64 0, .int .i64 0, .string ⟨#[]⟩, .slice none 0 0, .int .i64 0, .int .i64 0, .int .i64 0, .string ⟨#[]⟩, .slice none 0 0, .slice none 0 0, .slice none 0 0, .slice none 0 0] #[.int .i64 0, .int .i64 (place l E p), .string ⟨#[]⟩, .string ⟨#[]⟩, .int .i64 0, .int .i64 0, .int .i64 0, .string ⟨#[]⟩, .slice none 0 0, .int .i64 0, .int .i64 0, .int .i64 0, .string ⟨#[]⟩, .slice none 0 0, .slice none 0 0, .slice none 0 0, .slice none 0 0] hb)
 clear hb HHE h
 go_upto_region 2 with fail
 generalize w1.alloc (.cells #[.int .i64 0, .int .i64 (place l E p), .string ⟨#[]⟩, .string ⟨#[]⟩, .int .i64 0, .int .i64 0, .int .i64 0, .string ⟨#[]⟩, .slice none 0 0, .int .i64 0, .int .i64 0, .int .i64 0, .string ⟨#[]⟩, .slice none 0 0, .slice none 0 0, .slice none 0 0, .slice none 0 0] 53) = W2 at *
 generalize w1.heap.size = Q at *
 go_wp2_with fail
 refine (HTX.out _ (p, false) (HS.out.bel h0 hg) hp HS.out.1).mono ?_
 rintro r w2 ⟨rfl, hb⟩
 replace HS := Hi_ (HS.out.keep hb)
 clear hb
 go_wp2_with fail
 refine (HNA.out _ (p, false) (HS.out.bel h0 hg) hp HS.out.1).mono ?_
 rintro r w4 ⟨rfl, hrN, hgN⟩
 replace HS := Hi_ (HS.out.grown hgN hrN)
 clear hrN hgN
 generalize nameD l (p, false) = nn at *
 obtain ⟨nm, q1⟩ := nn
 dsimp only at *
 have c2 := HS.out.cell 2 (v := .string ⟨#[]⟩) rfl
 have g2 := HS.out.frozen 2
 go_upto_region 22 with fail
 replace HS := Hi_ ((HS.out.put 2 (.string nm)).to (cs' := #[.int .i64 0, .int .i64 (place l E p), .string nm, .string ⟨#[]⟩, .int .i64 0, .int .i64 0, .int .i64 0, .string ⟨#[]⟩, .slice none 0 0, .int .i64 0, .int .i64 0, .int .i64 0, .string ⟨#[]⟩, .slice none 0 0, .slice none 0 0, .slice none 0 0, .slice none 0 0]) rfl)
 generalize HW1 : World.setCell _ _ _ = V1 at *
 clear HW1 c2 g2
 go_wp2_with fail
 refine (HTX.out _ q1 (HS.out.bel h0 hg) hp1 HS.out.1).mono ?_
 rintro r w5 ⟨rfl, hb⟩
 replace HS := Hi_ (HS.out.keep hb)
 clear hb
 go_wp2_with fail
 refine (HND.out _ q1 ⟨#[61]⟩ (HS.out.bel h0 hg) hp1 HS.out.1).mono ?_
 rintro r w6 ⟨⟨v6, rfl⟩, hrN, hgN⟩
 replace HS := Hi_ (HS.out.grown (r' := needD l eqB q1) hgN hrN)
 clear hrN hgN
 generalize needD l eqB q1 = q2 at *
 go_wp2_with fail
 refine (HTX.out _ q2 (HS.out.bel h0 hg) hp2 HS.out.1).mono ?_
 rintro r w7 ⟨rfl, hb⟩
 replace HS := Hi_ (HS.out.keep hb)
 clear hb
 go_wp2_with fail
 refine (HTX.out _ q2 (HS.out.bel h0 hg) hp2 HS.out.1).mono ?_
 rintro r w8 ⟨rfl, hb⟩
 replace HS := Hi_ (HS.out.keep hb)
 clear hb
 go_wp2_with fail
 refine (HIS.out _).mono ?_
 rintro r w9 ⟨rfl, hb⟩
 replace HS := Hi_ (HS.out.keep hb)
 clear hb HIS
 go_wp2_with fail
 refine (HT1.out _ q2 (HS.out.bel h0 hg) hp2 HS.out.1).mono ?_
 rintro r w10 ⟨rfl, hb⟩
 replace HS := Hi_ (HS.out.keep hb)
 clear hb
 have c0 := HS.out.cell 0 (v := .int .i64 0) rfl
 have g0 := HS.out.frozen 0
 go_upto_region 13 with fail
 replace HS := Hi_ ((HS.out.put 0 (.int .i64 3)).to (cs' := #[.int .i64 3, .int .i64 (place l E p), .string nm, .string ⟨#[]⟩, .int .i64 0, .int .i64 0, .int .i64 0, .string ⟨#[]⟩, .slice none 0 0, .int .i64 0, .int .i64 0, .int .i64 0, .string ⟨#[]⟩, .slice none 0 0, .slice none 0 0, .slice none 0 0, .slice none 0 0]) rfl)
 generalize HW2 : World.setCell _ _ _ = V2 at *
 clear HW2 c0 g0
 go_wp2_with fail
 refine (HNA.out _ q2 (HS.out.bel h0 hg) hp2 HS.out.1).mono ?_
 rintro r w11 ⟨rfl, hrN, hgN⟩
 replace HS := Hi_ (HS.out.grown hgN hrN)
 clear hrN hgN HNA HT1
 generalize nameD l q2 = nn at *
 obtain ⟨no, q3⟩ := nn
 dsimp only at *
 have c3 := HS.out.cell 3 (v := .string ⟨#[]⟩) rfl
 have g3 := HS.out.frozen 3
 go_upto_region 14 with fail
 replace HS := Hi_ ((HS.out.put 3 (.string no)).to (cs' := #[.int .i64 3, .int .i64 (place l E p), .string nm, .string no, .int .i64 0, .int .i64 0, .int .i64 0, .string ⟨#[]⟩, .slice none 0 0, .int .i64 0, .int .i64 0, .int .i64 0, .string ⟨#[]⟩, .slice none 0 0, .slice none 0 0, .slice none 0 0, .slice none 0 0]) rfl)
 generalize HW3 : World.setCell _ _ _ = V3 at *
 clear HW3 c3 g3
 go_wp2_with fail
 refine (HND.out _ q3 ⟨#[40]⟩ (HS.out.bel h0 hg) hp3 HS.out.1).mono ?_
 rintro r w12 ⟨⟨v12, rfl⟩, hrN, hgN⟩
 replace HS := Hi_ (HS.out.grown (r' := needD l lparB q3) hgN hrN)
 clear hrN hgN
 generalize needD l lparB q3 = q4 at *
 replace HS := Hi_ HS.out.fresh
 clear eP eI eW eL eR e1
 have hX : ∃ y, y = argsD l E (l.length + 1) 0 q4 := ⟨_, rfl⟩
 obtain ⟨y, hy⟩ := hX
 have HY0 : Hid ((([] : List TE) ++ (argsD l E (l.length + 1) 0 q4).1, (argsD l E (l.length + 1) 0 q4).2) = y) := Hi_ hy.symm
 rw [← hy] at HEQ
 clear hy
 go_wp2
 go_loopw [] (fun wr => ∃ (v : Value) (xs : List TE) (q : RS) (m : Nat), Hid (Bld w wr wr g lv E q 53 w.heap.size Q #[.int .i64 0, .int .i64 0, .string ⟨#[]⟩, .string ⟨#[]⟩, .int .i64 0, .int .i64 0, .int .i64 0, .string ⟨#[]⟩, .slice none 0 0, .int .i64 0, .int .i64 0, .int .i64 0, .string ⟨#[]⟩, .slice none 0 0, .slice none 0 0, .slice none 0 0, .slice none 0 0] #[.int .i64 3, .int .i64 (place l E p), .string nm, .string no, .int .i64 0, .int .i64 0, .int .i64 0, .string ⟨#[]⟩, .slice none 0 0, .int .i64 0, .int .i64 0, .int .i64 0, .string ⟨#[]⟩, .slice none 0 0, v, .slice none 0 0, .slice none 0 0]) ∧ Hid (OwnL teR 49 (Q + 1) wr v xs) ∧ Hid ((xs ++ (argsD l E m xs.length q).1, (argsD l E m xs.length q).2) = y) ∧ Hid (q.2 = true ∨ l.length - q.1 < m) ∧ q.1 ≤ l.length ∧ xs.length + m = l.length + 1) (fun wr => l.length + 1 - lenAt wr Q)
 case atStart => exact ⟨.slice none 0 0, [], q4, l.length + 1, HS, Hi_ (OwnL.nil _ _ _ _), HY0, Hi_ (Or.inr (by omega)), hp4, by simp⟩
 case round =>
  obtain ⟨v, xs, q, m, HB, HO, HY, HF, hq, hxm⟩ := hrel
  clear HS HY0 hp4
  have HM := Hi_ (lenAt_of (HB.out.cell 14 (v := v) rfl) HO.out.len)
  obtain ⟨va, vc, rfl⟩ := HO.out.slice
  obtain ⟨z3, fz3⟩ := HB.out.rd
  obtain ⟨pq, f⟩ := q
  dsimp only at z3 hq
  by_cases hstop : f = true ∨ tx l pq f = rparB
  ·have HE := HY.out
   rw [argsD_stop (q := (pq, f)) hstop, List.append_nil] at HE
   have HS := HB
   clear HB HY HF HM
   have HA := Hi_ (HO.out.sl teR_more)
   clear HO
   cases f with
   | true =>
    have hp8 := needD_le (l := l) (s := rparB) (q := (pq, true)) (by decide) hq
    rw [← HE] at HEQ
    dsimp only at HEQ
    clear HE
    go_wp2_with fail
    refine (HND.out _ (pq, true) ⟨#[41]⟩ (HS.out.bel h0 hg) hq HS.out.1).mono ?_
    rintro r w13 ⟨⟨v13, rfl⟩, hrN, hgN⟩
    replace HA := Hi_ (HA.out.keep (low_grown hgN (by have := HS.out.lt; omega)))
    replace HS := Hi_ (HS.out.grown (r' := needD l rparB (pq, true)) hgN hrN)
    clear hrN hgN
    generalize needD l rparB (pq, true) = q8 at *
    go_wp2_with fail
    refine (HND.out _ q8 ⟨#[59]⟩ (HS.out.bel h0 hg) hp8 HS.out.1).mono ?_
    rintro r w14 ⟨⟨v14, rfl⟩, hrN, hgN⟩
    replace HA := Hi_ (HA.out.keep (low_grown hgN (by have := HS.out.lt; omega)))
    replace HS := Hi_ (HS.out.grown (r' := needD l semiB q8) hgN hrN)
    clear hrN hgN
    replace HS := Hi_ HS.out.fresh
    go_upto_region 46 with fail
    clear HTX HND HEX
    refine wp_move_row 53 (.tmp 3) (.tmp 2) (.tmp 135) rfl rfl rfl rfl Q w.heap.size rfl 53 #[.int .i64 3, .int .i64 (place l E p), .string nm, .string no, .int .i64 0, .int .i64 0, .int .i64 0, .string ⟨#[]⟩, .slice none 0 0, .int .i64 0, .int .i64 0, .int .i64 0, .string ⟨#[]⟩, .slice none 0 0, .slice va xs.length vc, .slice none 0 0, .slice none 0 0] #[.int .i64 0, .int .i64 0, .string ⟨#[]⟩, .string ⟨#[]⟩, .int .i64 0, .int .i64 0, .int .i64 0, .string ⟨#[]⟩, .slice none 0 0, .int .i64 0, .int .i64 0, .int .i64 0, .string ⟨#[]⟩, .slice none 0 0, .slice none 0 0, .slice none 0 0, .slice none 0 0] HS.out.2.1 HS.out.2.2.1 rfl rfl _ Tryz.underlying53 rfl (by kernel_rfl) rfl (by simp [Value.oneCell']) ?_
    have HF := Hi_ (HS.out.row #[.int .i64 3, .int .i64 (place l E p), .string nm, .string no, .int .i64 0, .int .i64 0, .int .i64 0, .string ⟨#[]⟩, .slice none 0 0, .int .i64 0, .int .i64 0, .int .i64 0, .string ⟨#[]⟩, .slice none 0 0, .slice va xs.length vc, .slice none 0 0, .slice none 0 0])
    generalize World.setRow _ _ _ = W99 at *
    go_wp2
    have hlt3 := HF.out.lt
    refine bodyPost_ret (v := .agg #[.int .i64 3, .int .i64 (place l E p), .string nm, .string no, .int .i64 0, .int .i64 0, .int .i64 0, .string ⟨#[]⟩, .slice none 0 0, .int .i64 0, .int .i64 0, .int .i64 0, .string ⟨#[]⟩, .slice none 0 0, .slice va xs.length vc, .slice none 0 0, .slice none 0 0]) (results_cell_row rfl _ _ w.heap.size 53 #[.int .i64 3, .int .i64 (place l E p), .string nm, .string no, .int .i64 0, .int .i64 0, .int .i64 0, .string ⟨#[]⟩, .slice none 0 0, .int .i64 0, .int .i64 0, .int .i64 0, .string ⟨#[]⟩, .slice none 0 0, .slice va xs.length vc, .slice none 0 0, .slice none 0 0] (0, 0) _ rfl HF.out.2.2.1 Tryz.underlying53 rfl (by kernel_rfl)) rfl (.mk HEQ.out HF.out.grew HF.out.1 ?_)
    exact TCR.shut hns hno (Nat.zero_le _) (Nat.zero_le _) (Sl.nil_ _ _) (Sl.nil_ _ _) (low_mono teR_more (by omega) (HA.out.keep HF.out.low_)) (Sl.nil_ _ _) (Sl.nil_ _ _)
   | false =>
    have er : ((tx l pq false).toList == [41]) = true := lit_true (hstop.resolve_left (by decide))
    have hp8 := needD_le (l := l) (s := rparB) (q := (pq, false)) (by decide) hq
    rw [← HE] at HEQ
    dsimp only at HEQ
    clear HE
    go_wp2_with fail
    refine (HTX.out _ (pq, false) (HS.out.bel h0 hg) hq HS.out.1).mono ?_
    rintro r w13 ⟨rfl, hb⟩
    replace HS := Hi_ (HS.out.keep hb)
    replace HA := Hi_ (HA.out.keep (low_belB hb))
    clear hb
    go_wp2_with fail
    refine (HND.out _ (pq, false) ⟨#[41]⟩ (HS.out.bel h0 hg) hq HS.out.1).mono ?_
    rintro r w14 ⟨⟨v14, rfl⟩, hrN, hgN⟩
    replace HA := Hi_ (HA.out.keep (low_grown hgN (by have := HS.out.lt; omega)))
    replace HS := Hi_ (HS.out.grown (r' := needD l rparB (pq, false)) hgN hrN)
    clear hrN hgN
    generalize needD l rparB (pq, false) = q8 at *
    go_wp2_with fail
    refine (HND.out _ q8 ⟨#[59]⟩ (HS.out.bel h0 hg) hp8 HS.out.1).mono ?_
    rintro r w15 ⟨⟨v15, rfl⟩, hrN, hgN⟩
    replace HA := Hi_ (HA.out.keep (low_grown hgN (by have := HS.out.lt; omega)))
    replace HS := Hi_ (HS.out.grown (r' := needD l semiB q8) hgN hrN)
    clear hrN hgN
    replace HS := Hi_ HS.out.fresh
    go_upto_region 46 with fail
    clear HTX HND HEX
    refine wp_move_row 53 (.tmp 3) (.tmp 2) (.tmp 135) rfl rfl rfl rfl Q w.heap.size rfl 53 #[.int .i64 3, .int .i64 (place l E p), .string nm, .string no, .int .i64 0, .int .i64 0, .int .i64 0, .string ⟨#[]⟩, .slice none 0 0, .int .i64 0, .int .i64 0, .int .i64 0, .string ⟨#[]⟩, .slice none 0 0, .slice va xs.length vc, .slice none 0 0, .slice none 0 0] #[.int .i64 0, .int .i64 0, .string ⟨#[]⟩, .string ⟨#[]⟩, .int .i64 0, .int .i64 0, .int .i64 0, .string ⟨#[]⟩, .slice none 0 0, .int .i64 0, .int .i64 0, .int .i64 0, .string ⟨#[]⟩, .slice none 0 0, .slice none 0 0, .slice none 0 0, .slice none 0 0] HS.out.2.1 HS.out.2.2.1 rfl rfl _ Tryz.underlying53 rfl (by kernel_rfl) rfl (by simp [Value.oneCell']) ?_
    have HF := Hi_ (HS.out.row #[.int .i64 3, .int .i64 (place l E p), .string nm, .string no, .int .i64 0, .int .i64 0, .int .i64 0, .string ⟨#[]⟩, .slice none 0 0, .int .i64 0, .int .i64 0, .int .i64 0, .string ⟨#[]⟩, .slice none 0 0, .slice va xs.length vc, .slice none 0 0, .slice none 0 0])
    generalize World.setRow _ _ _ = W99 at *
    go_wp2
    have hlt3 := HF.out.lt
    refine bodyPost_ret (v := .agg #[.int .i64 3, .int .i64 (place l E p), .string nm, .string no, .int .i64 0, .int .i64 0, .int .i64 0, .string ⟨#[]⟩, .slice none 0 0, .int .i64 0, .int .i64 0, .int .i64 0, .string ⟨#[]⟩, .slice none 0 0, .slice va xs.length vc, .slice none 0 0, .slice none 0 0]) (results_cell_row rfl _ _ w.heap.size 53 #[.int .i64 3, .int .i64 (place l E p), .string nm, .string no, .int .i64 0, .int .i64 0, .int .i64 0, .string ⟨#[]⟩, .slice none 0 0, .int .i64 0, .int .i64 0, .int .i64 0, .string ⟨#[]⟩, .slice none 0 0, .slice va xs.length vc, .slice none 0 0, .slice none 0 0] (0, 0) _ rfl HF.out.2.2.1 Tryz.underlying53 rfl (by kernel_rfl)) rfl (.mk HEQ.out HF.out.grew HF.out.1 ?_)
    exact TCR.shut hns hno (Nat.zero_le _) (Nat.zero_le _) (Sl.nil_ _ _) (Sl.nil_ _ _) (low_mono teR_more (by omega) (HA.out.keep HF.out.low_)) (Sl.nil_ _ _) (Sl.nil_ _ _)
  ·have hf : f = false := by cases f with
    | true => exact absurd (Or.inl rfl) hstop
    | false => rfl
   subst hf
   have hne : tx l pq false ≠ rparB := fun e => hstop (Or.inr e)
   have hlt : l.length - pq < m := by
    rcases HF.out with h | h
    ·cases h
    ·exact h
   obtain ⟨m, rfl⟩ : ∃ m', m = m' + 1 := ⟨m - 1, by omega⟩
   have HGO := Hi_ (argsD_go (E := E) (n := m) (k := xs.length) (q := (pq, false)) rfl hne)
   have er : ((tx l pq false).toList == [41]) = false := lit_false hne
   clear hstop hne HF
   go_wp2_with fail
   refine (HTX.out _ (pq, false) (HB.out.bel h0 hg) hq HB.out.1).mono ?_
   rintro r wa ⟨rfl, hb⟩
   have HO1 := Hi_ (HO.out.keep teR_more hb)
   have HS := Hi_ ((HB.out.keep hb).fresh)
   clear hb HB HO z3 fz3
   have c14 := HS.out.cell 14 (v := .slice va xs.length vc) rfl
   rcases Nat.eq_zero_or_pos xs.length with hk0 | hk0
   ·have hd : decide ((xs.length : Int) > 0) = false := decide_eq_false (by omega)
    have hnk : ¬ 0 < xs.length := by omega
    have hd2 : decide (0 < xs.length) = false := decide_eq_false hnk
    obtain ⟨q5, hq5⟩ : ∃ q5, q5 = (if 0 < xs.length then needD l commaB (pq, false) else (pq, false)) := ⟨_, rfl⟩
    have hq5' : q5 = (pq, false) := by rw [hq5, if_neg (by omega)]
    have hp5 : q5.1 ≤ l.length := by rw [hq5']; exact hq
    have hge : pq ≤ q5.1 := by rw [hq5']; exact Nat.le_refl _
    replace HS := Hi_ (HS.out.toR hq5'.symm)
    rw [← hq5] at HGO
    clear hq5 hq5' hk0
    have c14 := HS.out.cell 14 (v := .slice va xs.length vc) rfl
    have HE1 := Hi_ (fun W (hb : Bel wa W) => HEX.out W q5 ((HS.out.keep hb).bel h0 hg) hp5 (HS.out.keep hb).1)
    have hpe := exprD_le (E := E) hok 60 _ hp5
    have hgt := exprD_gt (l := l) (E := E) 60 q5
    generalize exprD l E 60 q5 = x5 at *
    obtain ⟨e, q6⟩ := x5
    dsimp only at *
    obtain ⟨cells, hoc⟩ := HO1.out
    have HC : Hid (OwnC teR 49 (Q + 1) wa (.slice va xs.length vc) xs cells) := Hi_ hoc
    have hgq := HS.out.lt
    clear hoc HO1
    have hxl : xs.length ≤ 6000 := by omega
    have HQ1 : Hid (∀ (A2 : Option Addr) (c2 : Nat), ∀ u ∈ [Value.int .i64 e.kind, .int .i64 e.at_, .int .i64 e.n, .string e.name, .slice A2 e.args.length c2], u.oneCell' = true) := Hi_ (by simp [Value.oneCell'])
    have HQ3 : Hid (xs.length + 1 ≤ maxLen) := Hi_ (by simp only [maxLen]; omega)
    have HQ4 : Hid ((xs.length + 1) * 64 ≤ 140737488355328) := Hi_ (by omega)
    have HSZ := Hi_ HS.out.size
    have w0c := (HS.out.keep ((Bel.rfl_ wa).dr)).cell 14 (v := .slice va xs.length vc) rfl
    go_upto_region 18 with fail
    go_region_law (first
     | (refine @step_app _ w2 _ _ _ _ _ _ ?_ (.tmp 59) (.tmp 62) 47 ?_ _ _ _ _ elTE (.slice va xs.length vc) xs.length _ ?_ HO2.out [.int .i64 e.kind, .int .i64 e.at_, .int .i64 e.n, .string e.name, .slice A2 e.args.length c2] w2.heap.size rfl ?_ ?_ (HQ1.out A2 c2) HQ3.out HQ4.out HQ5.out ?_ _ ?_; exact rfl; exact rfl; exact rfl; exact rfl; exact rfl; rotate_left; exact rfl; intro g2 cap w3 hown3 hg3 hv3; have HO3 := Hi_ hown3; have HG3 := Hi_ hg3; have HV3 := Hi_ hv3; have HS3 := Hi_ (HS2.out.app hg3 (fun k hk => (HO2.out.lt k hk).1)); have s03 := HS3.out.cell 14 (v := .slice va xs.length vc) rfl; have sf3 := HS3.out.frozen 14; clear hown3 hg3 hv3)
     | (go_simp; go_at_call 58; refine (HE1.out _ ?_).mono ?_; (repeat (first | exact Bel.rfl_ _ | apply Bel.dr | apply Bel.al)); rintro r w2 ⟨hgN, hrN, A2, c2, rfl, hs2, hsl2⟩; have hbw := (Bel.rfl_ wa).dr; have HS2 := Hi_ (((HS.out.keep hbw).grown hgN hrN).fresh); have HQ5 := Hi_ HS2.out.size; have HC2 := Hi_ (HC.out.at_ teR_more ((hbw.grown (some g)).trans hgN) fun k hk => by (cases hk; omega)); have HO2 := Hi_ HC2.out.1; have s02 := HS2.out.cell 14 (v := .slice va xs.length vc) rfl; have sf2 := HS2.out.frozen 14; have s04 := (HS2.out.keep ((Bel.rfl_ w2).al (.cells #[.int .i64 e.kind, .int .i64 e.at_, .int .i64 e.n, .string e.name, .slice A2 e.args.length c2] 49))).cell 14 (v := .slice va xs.length vc) rfl; have HSL := Hi_ (low_mono (B' := Q + 1) teR_more (Nat.le_trans HSZ.out hbw.size) hsl2); have HSA := Hi_ hsl2; clear hgN hrN hsl2 hbw))
    all_goals
     have HPU := Hi_ (OwnL.push teR_more (C := wa.heap.size) (x := e) HC2.out.1 HC2.out.2 HO3.out HG3.out (HV3.out.imp (fun h => h) fun h k hk => by (have : g2 = k := Option.some.inj hk); omega) (by obtain ⟨ek, ea, eN, es, eargs⟩ := e; exact TER.shut hs2 HSA.out) HSZ.out (fun k hk => (HC.out.1.lt k hk).2))
     replace HPU := Hi_ (HPU.out.at_ teR_more (grownS_one w3 Q 14 (.slice (some ⟨g2, 0, none⟩) (xs.length + 1) cap)) fun k hk => by cases hk; exact Nat.lt_succ_self Q)
     have HS4 := Hi_ (((HS3.out.put 14 (.slice (some ⟨g2, 0, none⟩) (xs.length + 1) cap)).to (cs' := #[.int .i64 3, .int .i64 (place l E p), .string nm, .string no, .int .i64 0, .int .i64 0, .int .i64 0, .string ⟨#[]⟩, .slice none 0 0, .int .i64 0, .int .i64 0, .int .i64 0, .string ⟨#[]⟩, .slice none 0 0, .slice (some ⟨g2, 0, none⟩) (xs.length + 1) cap, .slice none 0 0, .slice none 0 0]) rfl).fresh)
     clear HO3 HG3 HV3 HS3 s03 sf3 HC2 HO2 s02 sf2 s04 HSL HSA HS2 HQ5 HQ1 HQ3 HQ4 HC HE1 w0c c14 HS
     generalize HW98 : World.setCell _ _ _ = w4 at *
     clear HW98
     replace HS4 : Hid (Bld w w4 w4 g lv E q6 53 w.heap.size Q #[.int .i64 0, .int .i64 0, .string ⟨#[]⟩, .string ⟨#[]⟩, .int .i64 0, .int .i64 0, .int .i64 0, .string ⟨#[]⟩, .slice none 0 0, .int .i64 0, .int .i64 0, .int .i64 0, .string ⟨#[]⟩, .slice none 0 0, .slice none 0 0, .slice none 0 0, .slice none 0 0] #[.int .i64 3, .int .i64 (place l E p), .string nm, .string no, .int .i64 0, .int .i64 0, .int .i64 0, .string ⟨#[]⟩, .slice none 0 0, .int .i64 0, .int .i64 0, .int .i64 0, .string ⟨#[]⟩, .slice none 0 0, .slice (some ⟨g2, 0, none⟩) (xs.length + 1) cap, .slice none 0 0, .slice none 0 0]) := HS4
     have HMN := Hi_ (lenAt_of (n := xs.length + 1) (HS4.out.cell 14 (v := .slice (some ⟨g2, 0, none⟩) (xs.length + 1) cap) rfl) rfl)
     go_wp2_with fail
     refine (HTX.out _ q6 (HS4.out.bel h0 hg) hpe HS4.out.1).mono ?_
     rintro r w5' ⟨rfl, hb⟩
     by_cases hc : tx l q6.1 q6.2 = commaB
     ·have ec : ((tx l q6.1 q6.2).toList == [44]) = true := lit_true hc
      have hfd : failD (decide (tx l q6.1 q6.2 ≠ commaB ∧ tx l q6.1 q6.2 ≠ rparB)) q6 = q6 := by unfold failD; rw [decide_eq_false (fun h => h.1 hc)]; rfl
      rw [hfd] at HGO
      have HS5 := Hi_ ((HS4.out.keep hb).fresh)
      have HP5 := Hi_ (HPU.out.keep teR_more hb)
      have HMF := Hi_ (lenAt_of (n := xs.length + 1) (HS5.out.cell 14 (v := .slice (some ⟨g2, 0, none⟩) (xs.length + 1) cap) rfl) rfl)
      clear hc hfd hb HS4 HPU HMN
      go_wp2
      go_roundw
      case rel => exact ⟨_, xs ++ [e], q6, m, HS5, HP5, Hi_ (by rw [← HY.out, HGO.out, List.length_append, List.append_assoc]; rfl), Hi_ (hgt.imp (fun h => h) fun h => by omega), hpe, by rw [List.length_append]; simp only [List.length_cons, List.length_nil]; omega⟩
      case measure => rw [HMF.out, HM.out]; omega
     ·have ec : ((tx l q6.1 q6.2).toList == [44]) = false := lit_false hc
      replace HS4 := Hi_ ((HS4.out.keep hb).fresh)
      replace HPU := Hi_ (HPU.out.keep teR_more hb)
      clear hb HMN
      go_wp2_with fail
      refine (HTX.out _ q6 (HS4.out.bel h0 hg) hpe HS4.out.1).mono ?_
      rintro r w6' ⟨rfl, hb⟩
      have HS5 := Hi_ ((HS4.out.keep hb).fresh)
      have HP5 := Hi_ (HPU.out.keep teR_more hb)
      clear hb HS4 HPU
      by_cases hr : tx l q6.1 q6.2 = rparB
      ·have erp : ((tx l q6.1 q6.2).toList == [41]) = true := lit_true hr
       have hfd : failD (decide (tx l q6.1 q6.2 ≠ commaB ∧ tx l q6.1 q6.2 ≠ rparB)) q6 = q6 := by unfold failD; rw [decide_eq_false (fun h => h.2 hr)]; rfl
       rw [hfd] at HGO
       have HMF := Hi_ (lenAt_of (n := xs.length + 1) (HS5.out.cell 14 (v := .slice (some ⟨g2, 0, none⟩) (xs.length + 1) cap) rfl) rfl)
       clear hc hr hfd
       go_wp2
       go_roundw
       case rel => exact ⟨_, xs ++ [e], q6, m, HS5, HP5, Hi_ (by rw [← HY.out, HGO.out, List.length_append, List.append_assoc]; rfl), Hi_ (hgt.imp (fun h => h) fun h => by omega), hpe, by rw [List.length_append]; simp only [List.length_cons, List.length_nil]; omega⟩
       case measure => rw [HMF.out, HM.out]; omega
      ·have erp : ((tx l q6.1 q6.2).toList == [41]) = false := lit_false hr
       have hfd : failD (decide (tx l q6.1 q6.2 ≠ commaB ∧ tx l q6.1 q6.2 ≠ rparB)) q6 = (q6.1, true) := by unfold failD; rw [decide_eq_true ⟨hc, hr⟩]; rfl
       rw [hfd] at HGO
       obtain ⟨z3, fz3⟩ := HS5.out.rd
       have hgq5 := HS5.out.lt
       replace HP5 := Hi_ (HP5.out.at_ teR_more (grownS_one w6' g 3 (.bool true)) fun k hk => by cases hk; omega)
       have HS6 := Hi_ (HS5.out.bad.fresh)
       have HMF := Hi_ (lenAt_of (n := xs.length + 1) (HS6.out.cell 14 (v := .slice (some ⟨g2, 0, none⟩) (xs.length + 1) cap) rfl) rfl)
       clear hc hr hfd HS5
       go_wp2
       go_roundw
       case rel => exact ⟨_, xs ++ [e], (q6.1, true), m, HS6, HP5, Hi_ (by rw [← HY.out, HGO.out, List.length_append, List.append_assoc]; rfl), Hi_ (Or.inl rfl), hpe, by rw [List.length_append]; simp only [List.length_cons, List.length_nil]; omega⟩
       case measure => rw [HMF.out, HM.out]; omega
   ·have hd : decide ((xs.length : Int) > 0) = true := decide_eq_true (by omega)
    obtain ⟨q5, hq5⟩ : ∃ q5, q5 = (if 0 < xs.length then needD l commaB (pq, false) else (pq, false)) := ⟨_, rfl⟩
    have hq5' : q5 = needD l commaB (pq, false) := by rw [hq5, if_pos hk0]
    have hp5 : q5.1 ≤ l.length := by rw [hq5']; exact needD_le (by decide) hq
    have hge : pq ≤ q5.1 := by rw [hq5']; exact needD_ge (q := (pq, false))
    go_wp2_with fail
    refine (HND.out _ (pq, false) ⟨#[44]⟩ (HS.out.bel h0 hg) hq HS.out.1).mono ?_
    rintro r wb ⟨⟨vb, rfl⟩, hrN, hgN⟩
    replace HO1 := Hi_ (HO1.out.at_ teR_more hgN fun k hk => by cases hk; have := HS.out.lt; omega)
    replace HS := Hi_ ((HS.out.grown (r' := needD l commaB (pq, false)) hgN hrN).fresh)
    replace HS := Hi_ (HS.out.toR hq5'.symm)
    rw [← hq5] at HGO
    clear hgN hrN hq5 hq5' c14
    have c14 := HS.out.cell 14 (v := .slice va xs.length vc) rfl
    have HE1 := Hi_ (fun W (hb : Bel wb W) => HEX.out W q5 ((HS.out.keep hb).bel h0 hg) hp5 (HS.out.keep hb).1)
    have hpe := exprD_le (E := E) hok 60 _ hp5
    have hgt := exprD_gt (l := l) (E := E) 60 q5
    generalize exprD l E 60 q5 = x5 at *
    obtain ⟨e, q6⟩ := x5
    dsimp only at *
    obtain ⟨cells, hoc⟩ := HO1.out
    have HC : Hid (OwnC teR 49 (Q + 1) wb (.slice va xs.length vc) xs cells) := Hi_ hoc
    have hgq := HS.out.lt
    clear hoc HO1
    have hxl : xs.length ≤ 6000 := by omega
    have HQ1 : Hid (∀ (A2 : Option Addr) (c2 : Nat), ∀ u ∈ [Value.int .i64 e.kind, .int .i64 e.at_, .int .i64 e.n, .string e.name, .slice A2 e.args.length c2], u.oneCell' = true) := Hi_ (by simp [Value.oneCell'])
    have HQ3 : Hid (xs.length + 1 ≤ maxLen) := Hi_ (by simp only [maxLen]; omega)
    have HQ4 : Hid ((xs.length + 1) * 64 ≤ 140737488355328) := Hi_ (by omega)
    have HSZ := Hi_ HS.out.size
    have w0c := (HS.out.keep ((Bel.rfl_ wb).dr)).cell 14 (v := .slice va xs.length vc) rfl
    go_upto_region 18 with fail
    go_region_law (first
     | (refine @step_app _ w2 _ _ _ _ _ _ ?_ (.tmp 59) (.tmp 62) 47 ?_ _ _ _ _ elTE (.slice va xs.length vc) xs.length _ ?_ HO2.out [.int .i64 e.kind, .int .i64 e.at_, .int .i64 e.n, .string e.name, .slice A2 e.args.length c2] w2.heap.size rfl ?_ ?_ (HQ1.out A2 c2) HQ3.out HQ4.out HQ5.out ?_ _ ?_; exact rfl; exact rfl; exact rfl; exact rfl; exact rfl; rotate_left; exact rfl; intro g2 cap w3 hown3 hg3 hv3; have HO3 := Hi_ hown3; have HG3 := Hi_ hg3; have HV3 := Hi_ hv3; have HS3 := Hi_ (HS2.out.app hg3 (fun k hk => (HO2.out.lt k hk).1)); have s03 := HS3.out.cell 14 (v := .slice va xs.length vc) rfl; have sf3 := HS3.out.frozen 14; clear hown3 hg3 hv3)
     | (go_simp; go_at_call 58; refine (HE1.out _ ?_).mono ?_; (repeat (first | exact Bel.rfl_ _ | apply Bel.dr | apply Bel.al)); rintro r w2 ⟨hgN, hrN, A2, c2, rfl, hs2, hsl2⟩; have hbw := (Bel.rfl_ wb).dr; have HS2 := Hi_ (((HS.out.keep hbw).grown hgN hrN).fresh); have HQ5 := Hi_ HS2.out.size; have HC2 := Hi_ (HC.out.at_ teR_more ((hbw.grown (some g)).trans hgN) fun k hk => by (cases hk; omega)); have HO2 := Hi_ HC2.out.1; have s02 := HS2.out.cell 14 (v := .slice va xs.length vc) rfl; have sf2 := HS2.out.frozen 14; have s04 := (HS2.out.keep ((Bel.rfl_ w2).al (.cells #[.int .i64 e.kind, .int .i64 e.at_, .int .i64 e.n, .string e.name, .slice A2 e.args.length c2] 49))).cell 14 (v := .slice va xs.length vc) rfl; have HSL := Hi_ (low_mono (B' := Q + 1) teR_more (Nat.le_trans HSZ.out hbw.size) hsl2); have HSA := Hi_ hsl2; clear hgN hrN hsl2 hbw))
    all_goals
     have HPU := Hi_ (OwnL.push teR_more (C := wb.heap.size) (x := e) HC2.out.1 HC2.out.2 HO3.out HG3.out (HV3.out.imp (fun h => h) fun h k hk => by (have : g2 = k := Option.some.inj hk); omega) (by obtain ⟨ek, ea, eN, es, eargs⟩ := e; exact TER.shut hs2 HSA.out) HSZ.out (fun k hk => (HC.out.1.lt k hk).2))
     replace HPU := Hi_ (HPU.out.at_ teR_more (grownS_one w3 Q 14 (.slice (some ⟨g2, 0, none⟩) (xs.length + 1) cap)) fun k hk => by cases hk; exact Nat.lt_succ_self Q)
     have HS4 := Hi_ (((HS3.out.put 14 (.slice (some ⟨g2, 0, none⟩) (xs.length + 1) cap)).to (cs' := #[.int .i64 3, .int .i64 (place l E p), .string nm, .string no, .int .i64 0, .int .i64 0, .int .i64 0, .string ⟨#[]⟩, .slice none 0 0, .int .i64 0, .int .i64 0, .int .i64 0, .string ⟨#[]⟩, .slice none 0 0, .slice (some ⟨g2, 0, none⟩) (xs.length + 1) cap, .slice none 0 0, .slice none 0 0]) rfl).fresh)
     clear HO3 HG3 HV3 HS3 s03 sf3 HC2 HO2 s02 sf2 s04 HSL HSA HS2 HQ5 HQ1 HQ3 HQ4 HC HE1 w0c c14 HS
     generalize HW98 : World.setCell _ _ _ = w4 at *
     clear HW98
     replace HS4 : Hid (Bld w w4 w4 g lv E q6 53 w.heap.size Q #[.int .i64 0, .int .i64 0, .string ⟨#[]⟩, .string ⟨#[]⟩, .int .i64 0, .int .i64 0, .int .i64 0, .string ⟨#[]⟩, .slice none 0 0, .int .i64 0, .int .i64 0, .int .i64 0, .string ⟨#[]⟩, .slice none 0 0, .slice none 0 0, .slice none 0 0, .slice none 0 0] #[.int .i64 3, .int .i64 (place l E p), .string nm, .string no, .int .i64 0, .int .i64 0, .int .i64 0, .string ⟨#[]⟩, .slice none 0 0, .int .i64 0, .int .i64 0, .int .i64 0, .string ⟨#[]⟩, .slice none 0 0, .slice (some ⟨g2, 0, none⟩) (xs.length + 1) cap, .slice none 0 0, .slice none 0 0]) := HS4
     have HMN := Hi_ (lenAt_of (n := xs.length + 1) (HS4.out.cell 14 (v := .slice (some ⟨g2, 0, none⟩) (xs.length + 1) cap) rfl) rfl)
     go_wp2_with fail
     refine (HTX.out _ q6 (HS4.out.bel h0 hg) hpe HS4.out.1).mono ?_
     rintro r w5' ⟨rfl, hb⟩
     by_cases hc : tx l q6.1 q6.2 = commaB
     ·have ec : ((tx l q6.1 q6.2).toList == [44]) = true := lit_true hc
      have hfd : failD (decide (tx l q6.1 q6.2 ≠ commaB ∧ tx l q6.1 q6.2 ≠ rparB)) q6 = q6 := by unfold failD; rw [decide_eq_false (fun h => h.1 hc)]; rfl
      rw [hfd] at HGO
      have HS5 := Hi_ ((HS4.out.keep hb).fresh)
      have HP5 := Hi_ (HPU.out.keep teR_more hb)
      have HMF := Hi_ (lenAt_of (n := xs.length + 1) (HS5.out.cell 14 (v := .slice (some ⟨g2, 0, none⟩) (xs.length + 1) cap) rfl) rfl)
      clear hc hfd hb HS4 HPU HMN
      go_wp2
      go_roundw
      case rel => exact ⟨_, xs ++ [e], q6, m, HS5, HP5, Hi_ (by rw [← HY.out, HGO.out, List.length_append, List.append_assoc]; rfl), Hi_ (hgt.imp (fun h => h) fun h => by omega), hpe, by rw [List.length_append]; simp only [List.length_cons, List.length_nil]; omega⟩
      case measure => rw [HMF.out, HM.out]; omega
     ·have ec : ((tx l q6.1 q6.2).toList == [44]) = false := lit_false hc
      replace HS4 := Hi_ ((HS4.out.keep hb).fresh)
      replace HPU := Hi_ (HPU.out.keep teR_more hb)
      clear hb HMN
      go_wp2_with fail
      refine (HTX.out _ q6 (HS4.out.bel h0 hg) hpe HS4.out.1).mono ?_
      rintro r w6' ⟨rfl, hb⟩
      have HS5 := Hi_ ((HS4.out.keep hb).fresh)
      have HP5 := Hi_ (HPU.out.keep teR_more hb)
      clear hb HS4 HPU
      by_cases hr : tx l q6.1 q6.2 = rparB
      ·have erp : ((tx l q6.1 q6.2).toList == [41]) = true := lit_true hr
       have hfd : failD (decide (tx l q6.1 q6.2 ≠ commaB ∧ tx l q6.1 q6.2 ≠ rparB)) q6 = q6 := by unfold failD; rw [decide_eq_false (fun h => h.2 hr)]; rfl
       rw [hfd] at HGO
       have HMF := Hi_ (lenAt_of (n := xs.length + 1) (HS5.out.cell 14 (v := .slice (some ⟨g2, 0, none⟩) (xs.length + 1) cap) rfl) rfl)
       clear hc hr hfd
       go_wp2
       go_roundw
       case rel => exact ⟨_, xs ++ [e], q6, m, HS5, HP5, Hi_ (by rw [← HY.out, HGO.out, List.length_append, List.append_assoc]; rfl), Hi_ (hgt.imp (fun h => h) fun h => by omega), hpe, by rw [List.length_append]; simp only [List.length_cons, List.length_nil]; omega⟩
       case measure => rw [HMF.out, HM.out]; omega
      ·have erp : ((tx l q6.1 q6.2).toList == [41]) = false := lit_false hr
       have hfd : failD (decide (tx l q6.1 q6.2 ≠ commaB ∧ tx l q6.1 q6.2 ≠ rparB)) q6 = (q6.1, true) := by unfold failD; rw [decide_eq_true ⟨hc, hr⟩]; rfl
       rw [hfd] at HGO
       obtain ⟨z3, fz3⟩ := HS5.out.rd
       have hgq5 := HS5.out.lt
       replace HP5 := Hi_ (HP5.out.at_ teR_more (grownS_one w6' g 3 (.bool true)) fun k hk => by cases hk; omega)
       have HS6 := Hi_ (HS5.out.bad.fresh)
       have HMF := Hi_ (lenAt_of (n := xs.length + 1) (HS6.out.cell 14 (v := .slice (some ⟨g2, 0, none⟩) (xs.length + 1) cap) rfl) rfl)
       clear hc hr hfd HS5
       go_wp2
       go_roundw
       case rel => exact ⟨_, xs ++ [e], (q6.1, true), m, HS6, HP5, Hi_ (by rw [← HY.out, HGO.out, List.length_append, List.append_assoc]; rfl), Hi_ (Or.inl rfl), hpe, by rw [List.length_append]; simp only [List.length_cons, List.length_nil]; omega⟩
       case measure => rw [HMF.out, HM.out]; omega
end Go.Proofs.YtmfjlcpjemccmaaGreatDoor
