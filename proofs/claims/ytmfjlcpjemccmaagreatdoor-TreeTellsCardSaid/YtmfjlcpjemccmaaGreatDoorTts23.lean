/- The program's parser of an expression, all of it: walked. Each lemma states its own conditions. -/
import Derived.Test.YtmfjlcpjemccmaaGreatDoorTts22
namespace Go.Proofs.YtmfjlcpjemccmaaGreatDoor
open Go.RowKit
set_option maxRecDepth 20000 in
set_option maxHeartbeats 4000000 in
theorem pexpr_cell (l : List Tok) (lv : Value) (E g d : Nat) (D : Int) (p : Nat) (w0 w : World) (hl : Sl tokR w0 lv l) (hn : l.length ≤ 6000) (hok : ∀ t ∈ l, TokOk t) (hm : ∀ t ∈ l, t.text.size ≤ maxLen) (hg : w0.heap.size ≤ g) (hp : p ≤ l.length) (h0 : Bel w0 w) (h : Ps w g lv p E)
  (hi : isName (tx l p false) = true) (h4 : tx l (p + 1) false = lsqB) (hD : 0 ≤ D ∧ D < 60)
  (hrec : ∀ q W, q ≤ l.length → Bel w0 W → Ps W g lv q E → Calls Tryz.prog 184 #[.pointer (some ⟨g, 0, none⟩), .int .i64 (D + 1)] W fun r w' => PExprRes W g lv l E (exprD l E d (q, false)) r w') :
  Calls Tryz.prog 184 #[.pointer (some ⟨g, 0, none⟩), .int .i64 D] w fun r w' => PExprRes w g lv l E (exprD l E (d + 1) (p, false)) r w' := by
 have HHE := Hi_ (pplace_any l lv p E g (w.alloc (.cells #[.int .i64 0, .int .i64 0, .int .i64 0, .string ⟨#[]⟩, .slice none 0 0] 49)) ((hl.keep h0).keep ((Bel.rfl_ w).al _)) hn (h.keep ((Bel.rfl_ w).al _)))
 have HNM := Hi_ (fun W (hb : Bel w0 W) (h : Ps W g lv p E) => pname_is l lv p E g W (hl.keep hb) hn hm h hi)
 have HSE := Hi_ (kSE (E := E) (g := g) hl hn)
 have HTN := Hi_ (kTN (E := E) (g := g) hl hn)
 have HTY := Hi_ (kTY (E := E) (g := g) hl hn)
 have HFL := Hi_ (kFL (E := E) (g := g) hl hn)
 have HNA := Hi_ (kNA (E := E) hl hn hm hg)
 have HNU := Hi_ (kNU (E := E) hl hn hok hg)
 have HND := Hi_ (fun W (k q : Nat) (s : ByteArray) (hb : Bel w0 W) (h : Ps W g lv k E) (hs : s ≠ emp) (hB : Blk W q 9 #[.string s]) (hq : q ≠ g) => needs_any l lv k E g q [s] w0 W hl hn hb hg h (by simpa using hs) (by simp) hB hq)
 have HOP := Hi_ (kOP (E := E) hl hn hg)
 have HBH := Hi_ (fun W (hb : Bel w0 W) (h : Ps W g lv p E) => behind_any l lv p E g W (hl.keep hb) hn hp h)
 have e91 : ((tx l (p + 1) false).toList == [91]) = true := lit_true h4
 obtain ⟨n1, n2, n3⟩ := name_isnt hi
 have hlt := tx_lt (l := l) (p := p + 1) (f := false) (by rw [h4]; decide)
 have HN := Hi_ (nameD_yes hi)
 have HN2 := Hi_ (needD_yes h4)
 have HEQ := Hi_ (exprD_cell (E := E) (d := d) n1 n2 n3 (by rw [nameD_yes hi]; exact h4))
 rw [HN.out, HN2.out] at HEQ
 have HT := Hi_ (decide_eq_false n1)
 clear h4 n1 n2 n3
 have HREC := Hi_ (fun W (q : Nat) (hq : q ≤ l.length) (hb : Bel w0 W) (h : Ps W g lv q E) => hrec q W hq hb h)
 have hdD : (D == 60) = false := by simp; omega
 clear hrec
 clear hi
 go_enter Tryz.func184, Tryz.ntmps184
 go_wp2_with fail
 refine HHE.out.mono ?_
 rintro r w1 ⟨rfl, hb⟩
 have HS := Hi_ (BlP.start (p := p) h 49 #[.int .i64 0, .int .i64 0, .int .i64 0, .string ⟨#[]⟩, .slice none 0 0] #[.int .i64 1, .int .i64 (place l E p), .int .i64 0, .string ⟨#[]⟩, .slice none 0 0] hb)
 clear hb HHE h
 go_upto_region 2 with fail
 generalize w1.alloc (.cells #[.int .i64 1, .int .i64 (place l E p), .int .i64 0, .string ⟨#[]⟩, .slice none 0 0] 49) = W2 at *
 generalize w1.heap.size = Q at *
 go_wp2_with fail
 refine (HNM.out _ (HS.out.bel h0 hg) HS.out.1).mono ?_
 rintro r w2 ⟨rfl, hb⟩
 replace HS := Hi_ (HS.out.keep hb)
 clear hb HNM
 go_wp2_with fail
 refine (HBH.out _ (HS.out.bel h0 hg) HS.out.1).mono ?_
 rintro r w2' ⟨rfl, hb⟩
 replace HS := Hi_ (HS.out.keep hb)
 clear hb HBH
 go_wp2_with fail
 refine (HSE.out _ p lparB false (by decide) HT.out (HS.out.bel h0 hg) HS.out.1).mono ?_
 rintro r ws ⟨rfl, hb⟩
 replace HS := Hi_ (HS.out.keep hb)
 clear hb
 have c0 := HS.out.cell 0 rfl
 have g0 := HS.out.frozen 0
 go_upto_region 19 with fail
 replace HS := Hi_ ((HS.out.put 0 (.int .i64 3)).to (cs' := #[.int .i64 3, .int .i64 (place l E p), .int .i64 0, .string ⟨#[]⟩, .slice none 0 0]) rfl)
 generalize World.setCell _ _ _ = WP at *
 clear c0 g0
 go_wp2_with fail
 refine (HNA.out _ p (HS.out.bel h0 hg) HS.out.1).mono ?_
 rintro r w5 hres
 rw [HN.out] at hres
 dsimp only at hres
 obtain ⟨hg5, hp5, rfl⟩ := hres.good rfl
 replace HS := Hi_ (HS.out.grown hg5 hp5)
 clear hg5 hp5 hres
 have c3 := HS.out.cell 3 rfl
 have g3 := HS.out.frozen 3
 go_upto_region 20 with fail
 replace HS := Hi_ ((HS.out.put 3 (.string (tx l p false))).to (cs' := #[.int .i64 3, .int .i64 (place l E p), .int .i64 0, .string (tx l p false), .slice none 0 0]) rfl)
 generalize World.setCell _ _ _ = WP at *
 clear c3 g3
 have HGQ : Hid (g < WP.heap.size) := Hi_ (by have := HS.out.lt; have := HS.out.size; omega)
 have hba := (Bel.rfl_ WP).al (.cells #[.string ⟨#[91]⟩] 9)
 replace HS := Hi_ (HS.out.keep hba)
 have hgq : WP.heap.size ≠ g := by have := HS.out.lt; have := HGQ.out; omega
 go_wp2_with fail
 refine (HND.out _ (p + 1) WP.heap.size lsqB (HS.out.bel h0 hg) HS.out.1 (by decide) (Blk.new WP _ _) hgq).mono ?_
 rintro r wn hres
 rw [show needsD l [lsqB] ((p + 1), false) = ((p + 1) + 1, false) from HN2.out] at hres
 obtain ⟨hgn, hpn, rfl⟩ := hres.good rfl
 replace HS := Hi_ (HS.out.grown hgn hpn)
 clear hgn hpn hba hres hgq HGQ
 go_wp2_with fail
 refine (HREC.out _ (p + 1 + 1) (by omega) (HS.out.bel h0 hg) HS.out.1).mono ?_
 rintro r w7 hres
 have HQ7 : Hid (Q + 1 ≤ wn.heap.size) := Hi_ HS.out.size
 generalize exprD l E d ((p + 1 + 1), false) = xa at *
 obtain ⟨a, qa, fa⟩ := xa
 dsimp only at *
 cases fa with
 | true =>
  obtain ⟨hg7, rfl⟩ := PsR.bad hres rfl
  have HG7 := Hi_ (HS.out.grew.trans hg7)
  clear hg7 hres
  go_wp2
  exact ⟨rfl, .mkBad (by rw [HEQ.out]; dsimp only; exact needD_bad) HG7.out⟩
 | false =>
 obtain ⟨hg7, hp7, A7, c7, rfl, hsa, hsl7⟩ := PsR.good hres rfl
 have hba := (Bel.rfl_ w7).al (.cells #[.int .i64 a.kind, .int .i64 a.at_, .int .i64 a.n, .string a.name, .slice A7 a.args.length c7] 49)
 have HA := Hi_ ((low_mono (B' := Q + 1) teR_more HQ7.out hsl7).keep (low_belB hba))
 replace HS := Hi_ (HS.out.grown hg7 hp7)
 have HQN := Hi_ (HS.out.new_ 49 #[.int .i64 a.kind, .int .i64 a.at_, .int .i64 a.n, .string a.name, .slice A7 a.args.length c7])
 have HQG : Hid (Q + 1 ≤ w7.heap.size) := Hi_ HS.out.size
 replace HS := Hi_ (HS.out.keep hba)
 clear hg7 hp7 hsl7 hba HREC hres HQ7
 have c4 := HS.out.cell 4 rfl
 have g4 := HS.out.frozen 4
 go_upto_region 22 with fail
 clear c4 g4
 generalize w7.alloc (.cells #[.int .i64 a.kind, .int .i64 a.at_, .int .i64 a.n, .string a.name, .slice A7 a.args.length c7] 49) = W8 at *
 generalize w7.heap.size = GQ at *
 have hlow := low_set (B := Q + 1) W8 (g := Q) (i := 4) (.slice (some ⟨GQ, 0, none⟩) 1 1) (by omega)
 replace HQN := Hi_ (HQN.out.keep hlow)
 replace HA := Hi_ (HA.out.keep hlow)
 replace HS := Hi_ (((HS.out.put 4 (.slice (some ⟨GQ, 0, none⟩) 1 1)).to (cs' := #[.int .i64 3, .int .i64 (place l E p), .int .i64 0, .string (tx l p false), .slice (some ⟨GQ, 0, none⟩) 1 1]) rfl).fresh)
 generalize W8.setCell ⟨Q, 4, none⟩ (.slice (some ⟨GQ, 0, none⟩) 1 1) = W9 at *
 clear hlow
 have HGQ : Hid (g < W9.heap.size) := Hi_ (by have := HS.out.lt; have := HS.out.size; omega)
 have hba := (Bel.rfl_ W9).al (.cells #[.string ⟨#[93]⟩] 9)
 replace HS := Hi_ (HS.out.keep hba)
 have hgq : W9.heap.size ≠ g := by have := HS.out.lt; have := HGQ.out; omega
 go_wp2_with fail
 refine (HND.out _ qa W9.heap.size rsqB (HS.out.bel h0 hg) HS.out.1 (by decide) (Blk.new W9 _ _) hgq).mono ?_
 rintro r wn hres
 have hnd : needsD l [rsqB] (qa, false) = needD l rsqB (qa, false) := rfl
 rw [hnd] at hres
 clear hnd
 generalize needD l rsqB (qa, false) = st at *
 obtain ⟨qn, fn⟩ := st
 cases fn with
 | true =>
  obtain ⟨hgn, rfl⟩ := hres.bad rfl
  have HGN := Hi_ (HS.out.grew.trans hgn)
  clear hgn hres hba
  go_wp2
  exact ⟨rfl, .mkBad (by rw [HEQ.out]) HGN.out⟩
 | false =>
 obtain ⟨hgn, hpn, rfl⟩ := hres.good rfl
 replace HS := Hi_ (HS.out.grown hgn hpn)
 clear hgn hpn hba hres hgq HGQ
 go_upto_region 29 with fail
 refine wp_move_row 49 (.tmp 5) (.tmp 4) (.tmp 126) rfl rfl rfl rfl Q w.heap.size rfl 49 _ _ HS.out.2.1 HS.out.2.2.1 rfl rfl _ Tryz.underlying49 rfl (by kernel_rfl) rfl (by simp [Value.oneCell']) ?_
 have HF := Hi_ (HS.out.row_)
 generalize World.setRow _ _ _ = W99 at *
 go_wp2
 have hlt3 := HF.out.lt
 refine bodyPost_ret (results_cell_row rfl _ _ w.heap.size 49 _ (0, 0) _ rfl HF.out.2.2.1 Tryz.underlying49 rfl (by kernel_rfl)) rfl (PExprRes.mk (args := [a]) HEQ.out HF.out.grew HF.out.1 (tok_max hm) (low_mono teR_more (by omega) (te_one (a := a) (low_unb (HQN.out.keep HF.out.low_) HQG.out) HQG.out hsa (HA.out.keep HF.out.low_))))
set_option maxRecDepth 20000 in
set_option maxHeartbeats 4000000 in
theorem pexpr_pair (l : List Tok) (lv : Value) (E g d : Nat) (D : Int) (p : Nat) (w0 w : World) (hl : Sl tokR w0 lv l) (hn : l.length ≤ 6000) (hok : ∀ t ∈ l, TokOk t) (hm : ∀ t ∈ l, t.text.size ≤ maxLen) (hg : w0.heap.size ≤ g) (_hp : p ≤ l.length) (h0 : Bel w0 w) (h : Ps w g lv p E)
  (hi : isName (tx l p false) = false) (h1 : tx l p false = lparB) (hD : 0 ≤ D ∧ D < 60)
  (hrec : ∀ q W, q ≤ l.length → Bel w0 W → Ps W g lv q E → Calls Tryz.prog 184 #[.pointer (some ⟨g, 0, none⟩), .int .i64 (D + 1)] W fun r w' => PExprRes W g lv l E (exprD l E d (q, false)) r w') :
  Calls Tryz.prog 184 #[.pointer (some ⟨g, 0, none⟩), .int .i64 D] w fun r w' => PExprRes w g lv l E (exprD l E (d + 1) (p, false)) r w' := by
 have HHE := Hi_ (pplace_any l lv p E g (w.alloc (.cells #[.int .i64 0, .int .i64 0, .int .i64 0, .string ⟨#[]⟩, .slice none 0 0] 49)) ((hl.keep h0).keep ((Bel.rfl_ w).al _)) hn (h.keep ((Bel.rfl_ w).al _)))
 have HNM := Hi_ (fun W (hb : Bel w0 W) (h : Ps W g lv p E) => pname_is l lv p E g W (hl.keep hb) hn hm h hi)
 have HSE := Hi_ (kSE (E := E) (g := g) hl hn)
 have HTN := Hi_ (kTN (E := E) (g := g) hl hn)
 have HTY := Hi_ (kTY (E := E) (g := g) hl hn)
 have HFL := Hi_ (kFL (E := E) (g := g) hl hn)
 have HNA := Hi_ (kNA (E := E) hl hn hm hg)
 have HNU := Hi_ (kNU (E := E) hl hn hok hg)
 have HND := Hi_ (fun W (k q : Nat) (s : ByteArray) (hb : Bel w0 W) (h : Ps W g lv k E) (hs : s ≠ emp) (hB : Blk W q 9 #[.string s]) (hq : q ≠ g) => needs_any l lv k E g q [s] w0 W hl hn hb hg h (by simpa using hs) (by simp) hB hq)
 have HOP := Hi_ (kOP (E := E) hl hn hg)
 have HT := Hi_ (decide_eq_true h1)
 have hlt := tx_lt (l := l) (p := p) (f := false) (by rw [h1]; decide)
 have HLE := Hi_ (exprD_le (E := E) hok d)
 have HEQ := Hi_ (exprD_pair (E := E) (d := d) h1)
 rw [needD_yes h1] at HEQ
 clear h1
 have HREC := Hi_ (fun W (q : Nat) (hq : q ≤ l.length) (hb : Bel w0 W) (h : Ps W g lv q E) => hrec q W hq hb h)
 have hdD : (D == 60) = false := by simp; omega
 clear hrec
 clear hi
 go_enter Tryz.func184, Tryz.ntmps184
 go_wp2_with fail
 refine HHE.out.mono ?_
 rintro r w1 ⟨rfl, hb⟩
 have HS := Hi_ (BlP.start (p := p) h 49 #[.int .i64 0, .int .i64 0, .int .i64 0, .string ⟨#[]⟩, .slice none 0 0] #[.int .i64 1, .int .i64 (place l E p), .int .i64 0, .string ⟨#[]⟩, .slice none 0 0] hb)
 clear hb HHE h
 go_upto_region 2 with fail
 generalize w1.alloc (.cells #[.int .i64 1, .int .i64 (place l E p), .int .i64 0, .string ⟨#[]⟩, .slice none 0 0] 49) = W2 at *
 generalize w1.heap.size = Q at *
 go_wp2_with fail
 refine (HNM.out _ (HS.out.bel h0 hg) HS.out.1).mono ?_
 rintro r w2 ⟨rfl, hb⟩
 replace HS := Hi_ (HS.out.keep hb)
 clear hb HNM
 go_wp2_with fail
 refine (HSE.out _ p lparB true (by decide) HT.out (HS.out.bel h0 hg) HS.out.1).mono ?_
 rintro r ws ⟨rfl, hb⟩
 replace HS := Hi_ (HS.out.keep hb)
 clear hb
 obtain ⟨y1, yf⟩ := HS.out.go
 go_upto_region 12 with fail
 replace HS := Hi_ HS.out.at_
 generalize World.setCell _ _ _ = WA at *
 clear y1 yf
 go_wp2_with fail
 refine (HREC.out _ (p + 1) (by omega) (HS.out.bel h0 hg) HS.out.1).mono ?_
 rintro r w4 hres
 have HQ4 : Hid (Q + 1 ≤ WA.heap.size) := Hi_ HS.out.size
 generalize HXA0 : exprD l E d (p + 1, false) = xa at *
 have HXA := Hi_ HXA0
 clear HXA0
 obtain ⟨a, qa, fa⟩ := xa
 dsimp only at *
 cases fa with
 | true =>
  obtain ⟨hg4, rfl⟩ := PsR.bad hres rfl
  have HG4 := Hi_ (HS.out.grew.trans hg4)
  clear hg4 hres
  go_wp2
  exact ⟨rfl, .mkBad (by rw [HEQ.out, opS_bad, exprD_bad]; dsimp only; exact needD_bad) HG4.out⟩
 | false =>
 obtain ⟨hg4, hp4, A4, ck4, rfl, hsa, hsl4⟩ := PsR.good hres rfl
 have hqa : qa ≤ l.length := by
  have := HLE.out (p + 1, false) (by show p + 1 ≤ _; omega)
  rw [HXA.out] at this
  exact this
 have hba := (Bel.rfl_ w4).al (.cells #[.int .i64 a.kind, .int .i64 a.at_, .int .i64 a.n, .string a.name, .slice A4 a.args.length ck4] 49)
 have HA := Hi_ ((low_mono (B' := Q + 1) teR_more HQ4.out hsl4).keep (low_belB hba))
 replace HS := Hi_ (HS.out.grown hg4 hp4)
 have HAB := Hi_ (HS.out.new_ 49 #[.int .i64 a.kind, .int .i64 a.at_, .int .i64 a.n, .string a.name, .slice A4 a.args.length ck4])
 have HAG : Hid (Q + 1 ≤ w4.heap.size) := Hi_ HS.out.size
 replace HS := Hi_ (HS.out.keep hba)
 clear hg4 hp4 hsl4 hba hres HQ4 HXA
 go_upto_region 13 with fail
 generalize w4.alloc (.cells #[.int .i64 a.kind, .int .i64 a.at_, .int .i64 a.n, .string a.name, .slice A4 a.args.length ck4] 49) = W4 at *
 generalize w4.heap.size = GA at *
 go_wp2_with fail
 refine (HOP.out _ qa (HS.out.bel h0 hg) HS.out.1).mono ?_
 rintro r w5 hres
 have hqb := opS_le (q := (qa, false)) hqa
 have HKO : Hid (∃ K, opK (opD l (qa, false)) 7 = K) := Hi_ ⟨_, rfl⟩
 generalize opK (opD l (qa, false)) 7 = K at *
 generalize opS l (qa, false) = st at *
 obtain ⟨qb, fb⟩ := st
 dsimp only at hqb
 cases fb with
 | true =>
  obtain ⟨hg5, rfl⟩ := hres.bad rfl
  have HG5 := Hi_ (HS.out.grew.trans hg5)
  clear hg5 hres
  go_wp2
  exact ⟨rfl, .mkBad (by rw [HEQ.out, exprD_bad]; dsimp only; exact needD_bad) HG5.out⟩
 | false =>
 obtain ⟨hg5, hp5, rfl⟩ := hres.good rfl
 have hgl := HS.out.lt
 replace HA := Hi_ (HA.out.keep (low_grown hg5 (by omega)))
 replace HAB := Hi_ (HAB.out.keep (low_grown hg5 (by omega)))
 replace HS := Hi_ (HS.out.grown hg5 hp5)
 clear hg5 hp5 hres HKO
 have c0 := HS.out.cell 0 rfl
 have g0 := HS.out.frozen 0
 go_upto_region 14 with fail
 clear c0 g0
 have hlow := low_set (B := Q + 1) w5 (g := Q) (i := 0) (.int .i64 K) (by omega)
 replace HA := Hi_ (HA.out.keep hlow)
 replace HAB := Hi_ (HAB.out.keep hlow)
 replace HS := Hi_ ((HS.out.put 0 (.int .i64 K)).to (cs' := #[.int .i64 K, .int .i64 (place l E p), .int .i64 0, .string ⟨#[]⟩, .slice none 0 0]) rfl)
 generalize w5.setCell ⟨Q, 0, none⟩ (.int .i64 K) = W6 at *
 clear hlow
 go_wp2_with fail
 refine (HREC.out _ qb (by omega) (HS.out.bel h0 hg) HS.out.1).mono ?_
 rintro r w7 hres
 have HQ7 : Hid (Q + 1 ≤ W6.heap.size) := Hi_ HS.out.size
 generalize exprD l E d (qb, false) = xa at *
 obtain ⟨b, qb_, fb⟩ := xa
 dsimp only at *
 cases fb with
 | true =>
  obtain ⟨hg7, rfl⟩ := PsR.bad hres rfl
  have HG7 := Hi_ (HS.out.grew.trans hg7)
  clear hg7 hres
  go_wp2
  exact ⟨rfl, .mkBad (by rw [HEQ.out]; dsimp only; exact needD_bad) HG7.out⟩
 | false =>
 obtain ⟨hg7, hp7, A7, c7, rfl, hsb, hsl7⟩ := PsR.good hres rfl
 have hba := (Bel.rfl_ w7).al (.cells #[.int .i64 b.kind, .int .i64 b.at_, .int .i64 b.n, .string b.name, .slice A7 b.args.length c7] 49)
 have HBA := Hi_ ((low_mono (B' := Q + 1) teR_more HQ7.out hsl7).keep (low_belB hba))
 replace HA := Hi_ ((HA.out.keep (low_grown hg7 (by omega))).keep (low_belB hba))
 replace HAB := Hi_ ((HAB.out.keep (low_grown hg7 (by omega))).keep (low_belB hba))
 replace HS := Hi_ (HS.out.grown hg7 hp7)
 have HBB := Hi_ (HS.out.new_ 49 #[.int .i64 b.kind, .int .i64 b.at_, .int .i64 b.n, .string b.name, .slice A7 b.args.length c7])
 have HBG : Hid (Q + 1 ≤ w7.heap.size) := Hi_ HS.out.size
 replace HS := Hi_ (HS.out.keep hba)
 clear hg7 hp7 hsl7 hba hres HREC HQ7
 go_upto_region 15 with fail
 generalize w7.alloc (.cells #[.int .i64 b.kind, .int .i64 b.at_, .int .i64 b.n, .string b.name, .slice A7 b.args.length c7] 49) = W7 at *
 generalize w7.heap.size = GB at *
 have HGQ : Hid (g < W7.heap.size) := Hi_ (by have := HS.out.lt; have := HS.out.size; omega)
 have hba := (Bel.rfl_ W7).al (.cells #[.string ⟨#[41]⟩] 9)
 replace HS := Hi_ (HS.out.keep hba)
 replace HA := Hi_ (HA.out.keep (low_belB hba))
 replace HAB := Hi_ (HAB.out.keep (low_belB hba))
 replace HBA := Hi_ (HBA.out.keep (low_belB hba))
 replace HBB := Hi_ (HBB.out.keep (low_belB hba))
 have hgq : W7.heap.size ≠ g := by have := HS.out.lt; have := HGQ.out; omega
 go_wp2_with fail
 refine (HND.out _ qb_ W7.heap.size rparB (HS.out.bel h0 hg) HS.out.1 (by decide) (Blk.new W7 _ _) hgq).mono ?_
 rintro r wn hres
 have hnd : needsD l [rparB] (qb_, false) = needD l rparB (qb_, false) := rfl
 rw [hnd] at hres
 clear hnd
 generalize needD l rparB (qb_, false) = st at *
 obtain ⟨qn, fn⟩ := st
 cases fn with
 | true =>
  obtain ⟨hgn, rfl⟩ := hres.bad rfl
  have HGN := Hi_ (HS.out.grew.trans hgn)
  clear hgn hres hba
  go_wp2
  exact ⟨rfl, .mkBad (by rw [HEQ.out]) HGN.out⟩
 | false =>
 obtain ⟨hgn, hpn, rfl⟩ := hres.good rfl
 replace HA := Hi_ (HA.out.keep (low_grown hgn (by omega)))
 replace HAB := Hi_ (HAB.out.keep (low_grown hgn (by omega)))
 replace HBA := Hi_ (HBA.out.keep (low_grown hgn (by omega)))
 replace HBB := Hi_ (HBB.out.keep (low_grown hgn (by omega)))
 replace HS := Hi_ (HS.out.grown hgn hpn)
 clear hgn hpn hba hres hgq HGQ
 have x0 := (low_unb HAB.out HAG.out).cell (i := 0) (v := .int .i64 a.kind) rfl
 have x1 := (low_unb HAB.out HAG.out).cell (i := 1) (v := .int .i64 a.at_) rfl
 have x2 := (low_unb HAB.out HAG.out).cell (i := 2) (v := .int .i64 a.n) rfl
 have x3 := (low_unb HAB.out HAG.out).cell (i := 3) (v := .string a.name) rfl
 have x4 := (low_unb HAB.out HAG.out).cell (i := 4) (v := .slice A4 a.args.length ck4) rfl
 have y0 := (low_unb HBB.out HBG.out).cell (i := 0) (v := .int .i64 b.kind) rfl
 have y1 := (low_unb HBB.out HBG.out).cell (i := 1) (v := .int .i64 b.at_) rfl
 have y2 := (low_unb HBB.out HBG.out).cell (i := 2) (v := .int .i64 b.n) rfl
 have y3 := (low_unb HBB.out HBG.out).cell (i := 3) (v := .string b.name) rfl
 have y4 := (low_unb HBB.out HBG.out).cell (i := 4) (v := .slice A7 b.args.length c7) rfl
 have hb9 := (Bel.rfl_ wn).al (.cells #[.int .i64 a.kind, .int .i64 a.at_, .int .i64 a.n, .string a.name, .slice A4 a.args.length ck4, .int .i64 b.kind, .int .i64 b.at_, .int .i64 b.n, .string b.name, .slice A7 b.args.length c7] 49)
 have HQN := Hi_ (HS.out.new_ 49 #[.int .i64 a.kind, .int .i64 a.at_, .int .i64 a.n, .string a.name, .slice A4 a.args.length ck4, .int .i64 b.kind, .int .i64 b.at_, .int .i64 b.n, .string b.name, .slice A7 b.args.length c7])
 have HQG : Hid (Q + 1 ≤ wn.heap.size) := Hi_ HS.out.size
 replace HS := Hi_ (HS.out.keep hb9)
 replace HA := Hi_ (HA.out.keep (low_belB hb9))
 replace HBA := Hi_ (HBA.out.keep (low_belB hb9))
 clear hb9 HAB HBB
 have c4 := HS.out.cell 4 rfl
 have g4 := HS.out.frozen 4
 go_upto_region 29 with fail
 clear x0 x1 x2 x3 x4 y0 y1 y2 y3 y4 c4 g4
 generalize wn.alloc (.cells #[.int .i64 a.kind, .int .i64 a.at_, .int .i64 a.n, .string a.name, .slice A4 a.args.length ck4, .int .i64 b.kind, .int .i64 b.at_, .int .i64 b.n, .string b.name, .slice A7 b.args.length c7] 49) = W8 at *
 generalize wn.heap.size = GQ at *
 have hlow := low_set (B := Q + 1) W8 (g := Q) (i := 4) (.slice (some ⟨GQ, 0, none⟩) 2 2) (by omega)
 replace HQN := Hi_ (HQN.out.keep hlow)
 replace HA := Hi_ (HA.out.keep hlow)
 replace HBA := Hi_ (HBA.out.keep hlow)
 replace HS := Hi_ (((HS.out.put 4 (.slice (some ⟨GQ, 0, none⟩) 2 2)).to (cs' := #[.int .i64 K, .int .i64 (place l E p), .int .i64 0, .string ⟨#[]⟩, .slice (some ⟨GQ, 0, none⟩) 2 2]) rfl).fresh)
 generalize W8.setCell ⟨Q, 4, none⟩ (.slice (some ⟨GQ, 0, none⟩) 2 2) = W9 at *
 clear hlow
 go_upto_region 29 with fail
 refine wp_move_row 49 (.tmp 5) (.tmp 4) (.tmp 126) rfl rfl rfl rfl Q w.heap.size rfl 49 _ _ HS.out.2.1 HS.out.2.2.1 rfl rfl _ Tryz.underlying49 rfl (by kernel_rfl) rfl (by simp [Value.oneCell']) ?_
 have HF := Hi_ (HS.out.row_)
 generalize World.setRow _ _ _ = W99 at *
 go_wp2
 have hlt3 := HF.out.lt
 refine bodyPost_ret (results_cell_row rfl _ _ w.heap.size 49 _ (0, 0) _ rfl HF.out.2.2.1 Tryz.underlying49 rfl (by kernel_rfl)) rfl (PExprRes.mk (args := [a, b]) HEQ.out HF.out.grew HF.out.1 (Nat.zero_le _) (low_mono teR_more (by omega) (te_two (a := a) (b := b) (low_unb (HQN.out.keep HF.out.low_) HQG.out) HQG.out hsa hsb (HA.out.keep HF.out.low_) (HBA.out.keep HF.out.low_))))
theorem pexpr_any (l : List Tok) (lv : Value) (E g : Nat) (w0 : World) (hl : Sl tokR w0 lv l) (hn : l.length ≤ 6000) (hok : ∀ t ∈ l, TokOk t) (hm : ∀ t ∈ l, t.text.size ≤ maxLen) (hg : w0.heap.size ≤ g) :
  ∀ (d : Nat) (D : Int) (p : Nat) (w : World), D + d = 60 → 0 ≤ D → p ≤ l.length → Bel w0 w → Ps w g lv p E →
  Calls Tryz.prog 184 #[.pointer (some ⟨g, 0, none⟩), .int .i64 D] w fun r w' => PExprRes w g lv l E (exprD l E d (p, false)) r w'
 | d, D, p, w, hd, hD, hp, h0, h => by
  by_cases hi : isName (tx l p false) = true
  ·by_cases h4 : tx l (p + 1) false = lsqB
   ·cases d with
    | zero => exact pexpr_celldeep l lv E g D p w0 w hl hn hok hm hg hp h0 h hi h4 (by simp; omega)
    | succ d => exact pexpr_cell l lv E g d D p w0 w hl hn hok hm hg hp h0 h hi h4 (by omega) fun q W hq hb hW => pexpr_any l lv E g w0 hl hn hok hm hg d (D + 1) q W (by omega) (by omega) hq hb hW
   ·exact pexpr_name l lv E g d D p w0 w hl hn hok hm hg hp h0 h hi h4
  ·have hi : isName (tx l p false) = false := by simpa using hi
   by_cases h1 : tx l p false = lparB
   ·cases d with
    | zero => exact pexpr_deep l lv E g D p w0 w hl hn hok hm hg hp h0 h hi h1 (by simp; omega)
    | succ d => exact pexpr_pair l lv E g d D p w0 w hl hn hok hm hg hp h0 h hi h1 (by omega) fun q W hq hb hW => pexpr_any l lv E g w0 hl hn hok hm hg d (D + 1) q W (by omega) (by omega) hq hb hW
   ·by_cases h2 : tx l p false = dashB
    ·exact pexpr_dash l lv E g d D p w0 w hl hn hok hm hg hp h0 h hi h2
    ·cases h3 : digD (tx l p false) with
     | true => exact pexpr_num l lv E g d D p w0 w hl hn hok hm hg hp h0 h hi h3
     | false => exact pexpr_none l lv E g d D p w0 w hl hn hok hm hg hp h0 h hi h1 h2 h3
theorem kEX {l : List Tok} {lv : Value} {E g : Nat} {w0 : World} (hl : Sl tokR w0 lv l) (hn : l.length ≤ 6000) (hok : ∀ t ∈ l, TokOk t) (hm : ∀ t ∈ l, t.text.size ≤ maxLen) (hg : w0.heap.size ≤ g) (W : World) (k : Nat) (hk : k ≤ l.length) (hb : Bel w0 W) (h : Ps W g lv k E) : Calls Tryz.prog 184 #[.pointer (some ⟨g, 0, none⟩), .int .i64 0] W fun r w' => PExprRes W g lv l E (exprD l E 60 (k, false)) r w' := pexpr_any l lv E g w0 hl hn hok hm hg 60 0 k W (by omega) (by omega) hk hb h
end Go.Proofs.YtmfjlcpjemccmaaGreatDoor
