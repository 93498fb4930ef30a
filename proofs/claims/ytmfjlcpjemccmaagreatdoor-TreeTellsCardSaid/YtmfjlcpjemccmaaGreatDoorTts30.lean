/- The program's inner and cmd: walked. Each lemma states its own conditions. -/
import Derived.Test.YtmfjlcpjemccmaaGreatDoorTts29
namespace Go.Proofs.YtmfjlcpjemccmaaGreatDoor
open Go.RowKit
/-- a list of commands that is handed back; a command -/
def PListRes (w : World) (g : Nat) (lv : Value) (l : List Tok) (E : Nat) (x : List TC × RS) (r : Ending) (w' : World) : Prop :=
 PsR w g lv l E x.2 (fun r w' => ∃ A c, r = .returned (.slice A x.1.length c) ∧ Sl tcR (low w.heap.size w') (.slice A x.1.length c) x.1) r w'
def PCmdRes (w : World) (g : Nat) (lv : Value) (l : List Tok) (E : Nat) (x : TC × RS) (r : Ending) (w' : World) : Prop :=
 PsR w g lv l E x.2 (fun r w' => ∃ cs, r = .returned (.agg cs.toArray) ∧ tcR.R (low w.heap.size w') cs x.1) r w'
theorem PCmdRes.mk {w : World} {g : Nat} {lv : Value} {l : List Tok} {E p : Nat} {x : TC × RS} {w' : World} {c : TC} {cs : List Value} (hx : x = (c, (p, false))) (hg : w.grownBy w' (some g)) (hr : Ps w' g lv p E) (h : tcR.R (low w.heap.size w') cs c) : PCmdRes w g lv l E x (.returned (.agg cs.toArray)) w' := by
 subst hx
 exact .mkGood rfl hg hr ⟨cs, rfl, h⟩
/-- what a call that fills the command leaves -/
theorem BlP.g2b {w X W W' : World} {g : Nat} {lv : Value} {E p : Nat} {t : TypeId} {R q : Nat} {zs cs : Array Value} (h : BlP w X W g lv E p t R q zs cs) (k : G2 W W' g q) : w.grownBy W' (some g) ∧ True := by
 obtain ⟨h1, h2, h3, h4, h5, h6, h7⟩ := h
 exact ⟨⟨k.os.trans h4.os, k.tape.trans h4.tape, k.output.trans h4.output, Nat.le_trans h4.size k.size, fun x hx hne => (k.block x (Nat.lt_of_lt_of_le hx h4.size) (fun e => hne (by rw [e])) (by omega)).trans (h4.block x hx hne)⟩, trivial⟩
theorem cmdD_ifs {l : List Tok} {E p : Nat} {blk : RS → List TC × RS} (h : tx l p false = ifB) : cmdD l E blk (p, false) =
  if tx l (blk (exprD l E 60 (p + 1, false)).2).2.1 (blk (exprD l E 60 (p + 1, false)).2).2.2 = elseB then (.mk 6 (place l E p) emp emp zeroE (exprD l E 60 (p + 1, false)).1 [] (blk (exprD l E 60 (p + 1, false)).2).1 (blk (needD l elseB (blk (exprD l E 60 (p + 1, false)).2).2)).1, (blk (needD l elseB (blk (exprD l E 60 (p + 1, false)).2).2)).2)
  else (.mk 6 (place l E p) emp emp zeroE (exprD l E 60 (p + 1, false)).1 [] (blk (exprD l E 60 (p + 1, false)).2).1 [], (blk (exprD l E 60 (p + 1, false)).2).2) := by
 have h1 := needD_yes (l := l) (p := p) (s := tx l p false) rfl
 split
 ·rename_i h2
  have := cmdD_else (E := E) (blk := blk) h (by rw [h1]; exact h2)
  rwa [h1] at this
 ·rename_i h2
  have := cmdD_if (E := E) (blk := blk) h (by rw [h1]; exact h2)
  rwa [h1] at this
set_option maxRecDepth 20000 in
set_option maxHeartbeats 4000000 in
theorem inner_while (l : List Tok) (lv : Value) (E g Q : Nat) (p : Nat) (w0 w : World) (hl : Sl tokR w0 lv l) (hn : l.length ≤ 6000) (hok : ∀ t ∈ l, TokOk t) (hm : ∀ t ∈ l, t.text.size ≤ maxLen) (hg : w0.heap.size ≤ g) (hQ : w0.heap.size ≤ Q) (hne : g ≠ Q) (_hp : p ≤ l.length) (h0 : Bel w0 w) (h : Ps w g lv p E) (hq : Blk w Q 53 #[.int .i64 0, .int .i64 (place l E p), .string ⟨#[]⟩, .string ⟨#[]⟩, .int .i64 0, .int .i64 0, .int .i64 0, .string ⟨#[]⟩, .slice none 0 0, .int .i64 0, .int .i64 0, .int .i64 0, .string ⟨#[]⟩, .slice none 0 0, .slice none 0 0, .slice none 0 0, .slice none 0 0])
  (m : Nat) (hlm : l.length - p < m + 1) (blk : RS → List TC × RS) (_hbG : ∀ q, Ge l q (blk q).2) (hbB : ∀ k, (blk (k, true)).2 = (k, true))
  (hblk : ∀ W k, k ≤ l.length → l.length - k < m → Bel w0 W → Ps W g lv k E → Calls Tryz.prog 218 #[.pointer (some ⟨g, 0, none⟩)] W fun r w' => PListRes W g lv l E (blk (k, false)) r w')
  (h3 : tx l p false = whileB) :
  Calls Tryz.prog 209 #[.pointer (some ⟨g, 0, none⟩), .pointer (some ⟨Q, 0, none⟩)] w fun r w' => BecRes w g lv l E Q (cmdD l E blk (p, false)) r w' := by
 have HNM := Hi_ (kNM (E := E) (g := g) hl hn hm)
 have HTN := Hi_ (kTN (E := E) (g := g) hl hn)
 have HTY := Hi_ (kTY (E := E) (g := g) hl hn)
 have HSE := Hi_ (kSE (E := E) (g := g) hl hn)
 have HNA := Hi_ (kNA (E := E) hl hn hm hg)
 have HEX := Hi_ (kEX (E := E) hl hn hok hm hg)
 have HND := Hi_ (kND (E := E) hl hn hg)
 have HBH := Hi_ (kBH (E := E) (g := g) hl hn)
 have HBL := Hi_ (fun W (k : Nat) (hk : k ≤ l.length) (hl2 : l.length - k < m) (hb : Bel w0 W) (h : Ps W g lv k E) => hblk W k hk hl2 hb h)
 have HBB := Hi_ hbB
 have HEQ := Hi_ (cmdD_while (E := E) (blk := blk) h3)
 rw [needD_yes (l := l) (p := p) (s := tx l p false) rfl] at HEQ
 have hlt := tx_lt (l := l) (p := p) (f := false) (by rw [h3]; decide)
 have HIF : Hid (decide (tx l p false = ifB) = false) := Hi_ (decide_eq_false (by rw [h3]; decide))
 have hge := exprD_G (E := E) hok 60 (p + 1, false)
 clear h3
 have hgl := h.lt
 have hql := hq.lt
 have HS := Hi_ (Bec.start h hq hne)
 clear h hq hblk hbB
 go_enter Tryz.func209, Tryz.ntmps209
 have c0 := HS.out.cell 0 (v := .int .i64 0) rfl
 have g0 := HS.out.frozen 0
 go_upto_region 1 with fail
 replace HS := Hi_ ((HS.out.put 0 (.int .i64 7)).to (cs' := #[.int .i64 7, .int .i64 (place l E p), .string ⟨#[]⟩, .string ⟨#[]⟩, .int .i64 0, .int .i64 0, .int .i64 0, .string ⟨#[]⟩, .slice none 0 0, .int .i64 0, .int .i64 0, .int .i64 0, .string ⟨#[]⟩, .slice none 0 0, .slice none 0 0, .slice none 0 0, .slice none 0 0]) rfl)
 generalize World.setCell _ _ _ = wv1 at *
 clear c0 g0
 go_wp2_with fail
 refine (HSE.out _ p ifB false (by decide) HIF.out (HS.out.bel h0 hg hQ) HS.out.1).mono ?_
 rintro r wv2 ⟨rfl, hb⟩
 replace HS := Hi_ (HS.out.keep hb)
 clear hb
 obtain ⟨y1, yf⟩ := HS.out.go
 go_upto_region 4 with fail
 replace HS := Hi_ HS.out.at_
 generalize World.setCell _ _ _ = wv3 at *
 clear y1 yf
 go_wp2_with fail
 refine (HEX.out _ (p + 1) hlt (HS.out.bel h0 hg hQ) HS.out.1).mono ?_
 rintro r wv4 hres
 generalize exprD l E 60 ((p + 1), false) = xe at *
 obtain ⟨e, q1, fe⟩ := xe
 dsimp only at *
 cases fe with
 | true =>
  obtain ⟨hgn, rfl⟩ := PsR.bad hres rfl
  have HG := Hi_ (HS.out.grew.par hgn)
  clear hgn hres
  go_wp2
  exact ⟨rfl, .mkBad (by rw [HEQ.out]; exact HBB.out _) HG.out⟩
 | false =>
 obtain ⟨hgn, hpn, A1, c1, rfl, hse, hsl⟩ := PsR.good hres rfl
 have HSZ := HS.out.size
 replace HS := Hi_ (HS.out.grown hgn hpn)
 replace HS := Hi_ HS.out.fresh
 have HE := Hi_ (low_mono (B' := w.heap.size) teR_more HSZ hsl)
 clear hgn hpn hres hsl HSZ
 have c9 := HS.out.cell 9 (v := .int .i64 0) rfl
 have g9 := HS.out.frozen 9
 have c10 := HS.out.cell 10 (v := .int .i64 0) rfl
 have g10 := HS.out.frozen 10
 have c11 := HS.out.cell 11 (v := .int .i64 0) rfl
 have g11 := HS.out.frozen 11
 have c12 := HS.out.cell 12 (v := .string ⟨#[]⟩) rfl
 have g12 := HS.out.frozen 12
 have c13 := HS.out.cell 13 (v := .slice none 0 0) rfl
 have g13 := HS.out.frozen 13
 go_upto_region 5 with fail
 replace HS := Hi_ ((((((HS.out.put 9 (.int .i64 e.kind)).put 10 (.int .i64 e.at_)).put 11 (.int .i64 e.n)).put 12 (.string e.name)).put 13 (.slice A1 e.args.length c1)).to (cs' := #[.int .i64 7, .int .i64 (place l E p), .string ⟨#[]⟩, .string ⟨#[]⟩, .int .i64 0, .int .i64 0, .int .i64 0, .string ⟨#[]⟩, .slice none 0 0, .int .i64 e.kind, .int .i64 e.at_, .int .i64 e.n, .string e.name, .slice A1 e.args.length c1, .slice none 0 0, .slice none 0 0, .slice none 0 0]) rfl)
 generalize World.setCell _ _ _ = wv5 at *
 clear c9 g9 c10 g10 c11 g11 c12 g12 c13 g13
 have hq1 := hge.2.1 hlt
 have hq2 := hge.1
 dsimp only at hq1 hq2
 go_wp2_with fail
 refine (HBL.out _ q1 hq1 (by omega) (HS.out.bel h0 hg hQ) HS.out.1).mono ?_
 rintro r wv6 hres
 generalize blk (q1, false) = xe at *
 obtain ⟨tl, q3, fe⟩ := xe
 dsimp only at *
 cases fe with
 | true =>
  obtain ⟨hgn, rfl⟩ := PsR.bad hres rfl
  have HG := Hi_ (HS.out.grew.par hgn)
  clear hgn hres
  go_wp2
  exact ⟨rfl, .mkBad (by rw [HEQ.out]) HG.out⟩
 | false =>
 obtain ⟨hgn, hpn, A3, c3, rfl, hsl⟩ := PsR.good hres rfl
 have HSZ := HS.out.size
 replace HS := Hi_ (HS.out.grown hgn hpn)
 replace HE := Hi_ (HE.out.keep HS.out.low_)
 replace HS := Hi_ HS.out.fresh
 have HT := Hi_ (low_mono (B' := w.heap.size) tcR_more HSZ hsl)
 clear hgn hpn hres hsl HSZ
 have c15 := HS.out.cell 15 (v := .slice none 0 0) rfl
 have g15 := HS.out.frozen 15
 go_upto_region 6 with fail
 replace HS := Hi_ ((HS.out.put 15 (.slice A3 tl.length c3)).to (cs' := #[.int .i64 7, .int .i64 (place l E p), .string ⟨#[]⟩, .string ⟨#[]⟩, .int .i64 0, .int .i64 0, .int .i64 0, .string ⟨#[]⟩, .slice none 0 0, .int .i64 e.kind, .int .i64 e.at_, .int .i64 e.n, .string e.name, .slice A1 e.args.length c1, .slice none 0 0, .slice A3 tl.length c3, .slice none 0 0]) rfl)
 generalize World.setCell _ _ _ = wv7 at *
 clear c15 g15
 have c0 := HS.out.cell 0 (v := .int .i64 7) rfl
 have g0 := HS.out.frozen 0
 go_wp2
 have hl0 := HS.out.lt
 exact bodyPost_end (v := .tuple #[]) (results_none rfl _ _ _) rfl (.mkGood HEQ.out HS.out (TCR.shut (Nat.zero_le _) (Nat.zero_le _) (Nat.zero_le _) hse (Sl.nil_ _ _) (HE.out.keep HS.out.low_) (Sl.nil_ _ _) (HT.out.keep HS.out.low_) (Sl.nil_ _ _)))
set_option maxRecDepth 20000 in
set_option maxHeartbeats 4000000 in
theorem inner_if (l : List Tok) (lv : Value) (E g Q : Nat) (p : Nat) (w0 w : World) (hl : Sl tokR w0 lv l) (hn : l.length ≤ 6000) (hok : ∀ t ∈ l, TokOk t) (hm : ∀ t ∈ l, t.text.size ≤ maxLen) (hg : w0.heap.size ≤ g) (hQ : w0.heap.size ≤ Q) (hne : g ≠ Q) (_hp : p ≤ l.length) (h0 : Bel w0 w) (h : Ps w g lv p E) (hq : Blk w Q 53 #[.int .i64 0, .int .i64 (place l E p), .string ⟨#[]⟩, .string ⟨#[]⟩, .int .i64 0, .int .i64 0, .int .i64 0, .string ⟨#[]⟩, .slice none 0 0, .int .i64 0, .int .i64 0, .int .i64 0, .string ⟨#[]⟩, .slice none 0 0, .slice none 0 0, .slice none 0 0, .slice none 0 0])
  (m : Nat) (hlm : l.length - p < m + 1) (blk : RS → List TC × RS) (hbG : ∀ q, Ge l q (blk q).2) (hbB : ∀ k, (blk (k, true)).2 = (k, true))
  (hblk : ∀ W k, k ≤ l.length → l.length - k < m → Bel w0 W → Ps W g lv k E → Calls Tryz.prog 218 #[.pointer (some ⟨g, 0, none⟩)] W fun r w' => PListRes W g lv l E (blk (k, false)) r w')
  (h3 : tx l p false = ifB) :
  Calls Tryz.prog 209 #[.pointer (some ⟨g, 0, none⟩), .pointer (some ⟨Q, 0, none⟩)] w fun r w' => BecRes w g lv l E Q (cmdD l E blk (p, false)) r w' := by
 have HNM := Hi_ (kNM (E := E) (g := g) hl hn hm)
 have HTN := Hi_ (kTN (E := E) (g := g) hl hn)
 have HTY := Hi_ (kTY (E := E) (g := g) hl hn)
 have HSE := Hi_ (kSE (E := E) (g := g) hl hn)
 have HNA := Hi_ (kNA (E := E) hl hn hm hg)
 have HEX := Hi_ (kEX (E := E) hl hn hok hm hg)
 have HND := Hi_ (kND (E := E) hl hn hg)
 have HBH := Hi_ (kBH (E := E) (g := g) hl hn)
 have HBL := Hi_ (fun W (k : Nat) (hk : k ≤ l.length) (hl2 : l.length - k < m) (hb : Bel w0 W) (h : Ps W g lv k E) => hblk W k hk hl2 hb h)
 have HBB := Hi_ hbB
 have HEQ := Hi_ (cmdD_ifs (E := E) (blk := blk) h3)
 have hlt := tx_lt (l := l) (p := p) (f := false) (by rw [h3]; decide)
 have HIF : Hid (decide (tx l p false = ifB) = true) := Hi_ (decide_eq_true h3)
 have hge := exprD_G (E := E) hok 60 (p + 1, false)
 have HBG := Hi_ hbG
 clear h3 hbG
 have hgl := h.lt
 have hql := hq.lt
 have HS := Hi_ (Bec.start h hq hne)
 clear h hq hblk hbB
 go_enter Tryz.func209, Tryz.ntmps209
 have c0 := HS.out.cell 0 (v := .int .i64 0) rfl
 have g0 := HS.out.frozen 0
 go_upto_region 1 with fail
 replace HS := Hi_ ((HS.out.put 0 (.int .i64 7)).to (cs' := #[.int .i64 7, .int .i64 (place l E p), .string ⟨#[]⟩, .string ⟨#[]⟩, .int .i64 0, .int .i64 0, .int .i64 0, .string ⟨#[]⟩, .slice none 0 0, .int .i64 0, .int .i64 0, .int .i64 0, .string ⟨#[]⟩, .slice none 0 0, .slice none 0 0, .slice none 0 0, .slice none 0 0]) rfl)
 generalize World.setCell _ _ _ = wv1 at *
 clear c0 g0
 go_wp2_with fail
 refine (HSE.out _ p ifB true (by decide) HIF.out (HS.out.bel h0 hg hQ) HS.out.1).mono ?_
 rintro r wv2 ⟨rfl, hb⟩
 replace HS := Hi_ (HS.out.keep hb)
 clear hb
 have c0 := HS.out.cell 0 (v := .int .i64 7) rfl
 have g0 := HS.out.frozen 0
 go_upto_region 3 with fail
 replace HS := Hi_ ((HS.out.put 0 (.int .i64 6)).to (cs' := #[.int .i64 6, .int .i64 (place l E p), .string ⟨#[]⟩, .string ⟨#[]⟩, .int .i64 0, .int .i64 0, .int .i64 0, .string ⟨#[]⟩, .slice none 0 0, .int .i64 0, .int .i64 0, .int .i64 0, .string ⟨#[]⟩, .slice none 0 0, .slice none 0 0, .slice none 0 0, .slice none 0 0]) rfl)
 generalize World.setCell _ _ _ = wv3 at *
 clear c0 g0
 obtain ⟨y1, yf⟩ := HS.out.go
 go_upto_region 4 with fail
 replace HS := Hi_ HS.out.at_
 generalize World.setCell _ _ _ = wv4 at *
 clear y1 yf
 go_wp2_with fail
 refine (HEX.out _ (p + 1) hlt (HS.out.bel h0 hg hQ) HS.out.1).mono ?_
 rintro r wv5 hres
 generalize exprD l E 60 ((p + 1), false) = xe at *
 obtain ⟨e, q1, fe⟩ := xe
 dsimp only at *
 cases fe with
 | true =>
  obtain ⟨hgn, rfl⟩ := PsR.bad hres rfl
  have HG := Hi_ (HS.out.grew.par hgn)
  clear hgn hres
  go_wp2
  exact ⟨rfl, .mkBad (by rw [HEQ.out, if_neg (by rw [HBB.out, tx_bad]; decide)]; exact HBB.out _) HG.out⟩
 | false =>
 obtain ⟨hgn, hpn, A1, c1, rfl, hse, hsl⟩ := PsR.good hres rfl
 have HSZ := HS.out.size
 replace HS := Hi_ (HS.out.grown hgn hpn)
 replace HS := Hi_ HS.out.fresh
 have HE := Hi_ (low_mono (B' := w.heap.size) teR_more HSZ hsl)
 clear hgn hpn hres hsl HSZ
 have c9 := HS.out.cell 9 (v := .int .i64 0) rfl
 have g9 := HS.out.frozen 9
 have c10 := HS.out.cell 10 (v := .int .i64 0) rfl
 have g10 := HS.out.frozen 10
 have c11 := HS.out.cell 11 (v := .int .i64 0) rfl
 have g11 := HS.out.frozen 11
 have c12 := HS.out.cell 12 (v := .string ⟨#[]⟩) rfl
 have g12 := HS.out.frozen 12
 have c13 := HS.out.cell 13 (v := .slice none 0 0) rfl
 have g13 := HS.out.frozen 13
 go_upto_region 5 with fail
 replace HS := Hi_ ((((((HS.out.put 9 (.int .i64 e.kind)).put 10 (.int .i64 e.at_)).put 11 (.int .i64 e.n)).put 12 (.string e.name)).put 13 (.slice A1 e.args.length c1)).to (cs' := #[.int .i64 6, .int .i64 (place l E p), .string ⟨#[]⟩, .string ⟨#[]⟩, .int .i64 0, .int .i64 0, .int .i64 0, .string ⟨#[]⟩, .slice none 0 0, .int .i64 e.kind, .int .i64 e.at_, .int .i64 e.n, .string e.name, .slice A1 e.args.length c1, .slice none 0 0, .slice none 0 0, .slice none 0 0]) rfl)
 generalize World.setCell _ _ _ = wv6 at *
 clear c9 g9 c10 g10 c11 g11 c12 g12 c13 g13
 have hq1 := hge.2.1 hlt
 have hq2 := hge.1
 dsimp only at hq1 hq2
 have hbg := HBG.out (q1, false)
 go_wp2_with fail
 refine (HBL.out _ q1 hq1 (by omega) (HS.out.bel h0 hg hQ) HS.out.1).mono ?_
 rintro r wv7 hres
 generalize blk (q1, false) = xe at *
 obtain ⟨tl, q3, fe⟩ := xe
 dsimp only at *
 cases fe with
 | true =>
  obtain ⟨hgn, rfl⟩ := PsR.bad hres rfl
  have HG := Hi_ (HS.out.grew.par hgn)
  clear hgn hres
  go_wp2
  exact ⟨rfl, .mkBad (by rw [HEQ.out, if_neg (by rw [tx_bad]; decide)]) HG.out⟩
 | false =>
 obtain ⟨hgn, hpn, A3, c3, rfl, hsl⟩ := PsR.good hres rfl
 have HSZ := HS.out.size
 replace HS := Hi_ (HS.out.grown hgn hpn)
 replace HE := Hi_ (HE.out.keep HS.out.low_)
 replace HS := Hi_ HS.out.fresh
 have HT := Hi_ (low_mono (B' := w.heap.size) tcR_more HSZ hsl)
 clear hgn hpn hres hsl HSZ
 have c15 := HS.out.cell 15 (v := .slice none 0 0) rfl
 have g15 := HS.out.frozen 15
 go_upto_region 6 with fail
 replace HS := Hi_ ((HS.out.put 15 (.slice A3 tl.length c3)).to (cs' := #[.int .i64 6, .int .i64 (place l E p), .string ⟨#[]⟩, .string ⟨#[]⟩, .int .i64 0, .int .i64 0, .int .i64 0, .string ⟨#[]⟩, .slice none 0 0, .int .i64 e.kind, .int .i64 e.at_, .int .i64 e.n, .string e.name, .slice A1 e.args.length c1, .slice none 0 0, .slice A3 tl.length c3, .slice none 0 0]) rfl)
 generalize World.setCell _ _ _ = wv8 at *
 clear c15 g15
 have hq3 := hbg.2.1 hq1
 have hq4 := hbg.1
 dsimp only at hq3 hq4
 have c0 := HS.out.cell 0 (v := .int .i64 6) rfl
 have g0 := HS.out.frozen 0
 by_cases h4 : tx l q3 false = elseB
 ·have H4 := Hi_ h4
  rw [if_pos h4, needD_yes h4] at HEQ
  have hlt3 := tx_lt (l := l) (p := q3) (f := false) (by rw [h4]; decide)
  clear h4
  go_wp2_with fail
  refine (HTY.out _ q3 elseB (by decide) H4.out (HS.out.bel h0 hg hQ) HS.out.1).mono ?_
  rintro r wv9 ⟨rfl, hpn, hgn⟩
  replace HS := Hi_ (HS.out.grown hgn hpn)
  clear hgn hpn
  go_wp2_with fail
  refine (HBL.out _ (q3 + 1) hlt3 (by omega) (HS.out.bel h0 hg hQ) HS.out.1).mono ?_
  rintro r wv10 hres
  generalize blk ((q3 + 1), false) = xe at *
  obtain ⟨ul, q5, fe⟩ := xe
  dsimp only at *
  cases fe with
  | true =>
   obtain ⟨hgn, rfl⟩ := PsR.bad hres rfl
   have HG := Hi_ (HS.out.grew.par hgn)
   clear hgn hres
   go_wp2
   exact ⟨rfl, .mkBad (by rw [HEQ.out]) HG.out⟩
  | false =>
  obtain ⟨hgn, hpn, A5, c5, rfl, hsl⟩ := PsR.good hres rfl
  have HSZ := HS.out.size
  replace HS := Hi_ (HS.out.grown hgn hpn)
  replace HE := Hi_ (HE.out.keep HS.out.low_)
  replace HT := Hi_ (HT.out.keep HS.out.low_)
  replace HS := Hi_ HS.out.fresh
  have HU := Hi_ (low_mono (B' := w.heap.size) tcR_more HSZ hsl)
  clear hgn hpn hres hsl HSZ
  have c16 := HS.out.cell 16 (v := .slice none 0 0) rfl
  have g16 := HS.out.frozen 16
  go_wp2
  replace HS := Hi_ ((HS.out.put 16 (.slice A5 ul.length c5)).to (cs' := #[.int .i64 6, .int .i64 (place l E p), .string ⟨#[]⟩, .string ⟨#[]⟩, .int .i64 0, .int .i64 0, .int .i64 0, .string ⟨#[]⟩, .slice none 0 0, .int .i64 e.kind, .int .i64 e.at_, .int .i64 e.n, .string e.name, .slice A1 e.args.length c1, .slice none 0 0, .slice A3 tl.length c3, .slice A5 ul.length c5]) rfl)
  generalize World.setCell _ _ _ = wv11 at *
  clear c16 g16
  have hl0 := HS.out.lt
  exact bodyPost_end (v := .tuple #[]) (results_none rfl _ _ _) rfl (.mkGood HEQ.out HS.out (TCR.shut (Nat.zero_le _) (Nat.zero_le _) (Nat.zero_le _) hse (Sl.nil_ _ _) (HE.out.keep HS.out.low_) (Sl.nil_ _ _) (HT.out.keep HS.out.low_) (HU.out.keep HS.out.low_)))
 ·have H4 := Hi_ h4
  rw [if_neg h4] at HEQ
  clear h4
  go_wp2_with fail
  refine (HTN.out _ q3 elseB (by decide) H4.out (HS.out.bel h0 hg hQ) HS.out.1).mono ?_
  rintro r wv12 ⟨rfl, hb⟩
  replace HS := Hi_ (HS.out.keep hb)
  clear hb
  go_wp2
  have hl0 := HS.out.lt
  exact bodyPost_end (v := .tuple #[]) (results_none rfl _ _ _) rfl (.mkGood HEQ.out HS.out (TCR.shut (Nat.zero_le _) (Nat.zero_le _) (Nat.zero_le _) hse (Sl.nil_ _ _) (HE.out.keep HS.out.low_) (Sl.nil_ _ _) (HT.out.keep HS.out.low_) (Sl.nil_ _ _)))
set_option maxRecDepth 20000 in
set_option maxHeartbeats 4000000 in
theorem pcmd_print (l : List Tok) (lv : Value) (E g : Nat) (p : Nat) (w0 w : World) (hl : Sl tokR w0 lv l) (hn : l.length ≤ 6000) (hok : ∀ t ∈ l, TokOk t) (hm : ∀ t ∈ l, t.text.size ≤ maxLen) (hg : w0.heap.size ≤ g) (_hp : p ≤ l.length) (h0 : Bel w0 w) (h : Ps w g lv p E)
  (blk : RS → List TC × RS) (h1 : tx l p false = printB) :
  Calls Tryz.prog 187 #[.pointer (some ⟨g, 0, none⟩)] w fun r w' => PCmdRes w g lv l E (cmdD l E blk (p, false)) r w' := by
 have HHE := Hi_ (pplace_any l lv p E g (w.alloc (.cells #[.int .i64 0, .int .i64 0, .string ⟨#[]⟩, .string ⟨#[]⟩, .int .i64 0, .int .i64 0, .int .i64 0, .string ⟨#[]⟩, .slice none 0 0, .int .i64 0, .int .i64 0, .int .i64 0, .string ⟨#[]⟩, .slice none 0 0, .slice none 0 0, .slice none 0 0, .slice none 0 0] 53)) ((hl.keep h0).keep ((Bel.rfl_ w).al _)) hn (h.keep ((Bel.rfl_ w).al _)))
 have HNM := Hi_ (kNM (E := E) (g := g) hl hn hm)
 have HTN := Hi_ (kTN (E := E) (g := g) hl hn)
 have HTY := Hi_ (kTY (E := E) (g := g) hl hn)
 have HSE := Hi_ (kSE (E := E) (g := g) hl hn)
 have HNA := Hi_ (kNA (E := E) hl hn hm hg)
 have HEX := Hi_ (kEX (E := E) hl hn hok hm hg)
 have HND := Hi_ (kND (E := E) hl hn hg)
 have HBH := Hi_ (kBH (E := E) (g := g) hl hn)
 have HEQ := Hi_ (cmdD_print (E := E) (blk := blk) h1)
 rw [needD_yes (l := l) (p := p) (s := tx l p false) rfl] at HEQ
 have hlt := tx_lt (l := l) (p := p) (f := false) (by rw [h1]; decide)
 have H1 := Hi_ h1
 clear h1
 go_enter Tryz.func187, Tryz.ntmps187
 go_wp2_with fail
 refine HHE.out.mono ?_
 rintro r w1 ⟨rfl, hb⟩
 have HS := Hi_ (BlP.start (p := p) h 53 #[.int .i64 0, .int .i64 0, .string ⟨#[]⟩, .string ⟨#[]⟩, .int .i64 0, .int .i64 0, .int .i64 0, .string ⟨#[]⟩, .slice none 0 0, .int .i64 0, .int .i64 0, .int .i64 0, .string ⟨#[]⟩, .slice none 0 0, .slice none 0 0, .slice none 0 0, .slice none 0 0] #[.int .i64 0, .int .i64 (place l E p), .string ⟨#[]⟩, .string ⟨#[]⟩, .int .i64 0, .int .i64 0, .int .i64 0, .string ⟨#[]⟩, .slice none 0 0, .int .i64 0, .int .i64 0, .int .i64 0, .string ⟨#[]⟩, .slice none 0 0, .slice none 0 0, .slice none 0 0, .slice none 0 0] hb)
 clear hb HHE h
 go_upto_region 3 with fail
 generalize w1.alloc (.cells #[.int .i64 0, .int .i64 (place l E p), .string ⟨#[]⟩, .string ⟨#[]⟩, .int .i64 0, .int .i64 0, .int .i64 0, .string ⟨#[]⟩, .slice none 0 0, .int .i64 0, .int .i64 0, .int .i64 0, .string ⟨#[]⟩, .slice none 0 0, .slice none 0 0, .slice none 0 0, .slice none 0 0] 53) = W2 at *
 generalize w1.heap.size = Q at *
 go_wp2_with fail
 refine (HTY.out _ p printB (by decide) H1.out (HS.out.bel h0 hg) HS.out.1).mono ?_
 rintro r wv1 ⟨rfl, hpn, hgn⟩
 replace HS := Hi_ (HS.out.grown hgn hpn)
 clear hgn hpn
 have c0 := HS.out.cell 0 (v := .int .i64 0) rfl
 have g0 := HS.out.frozen 0
 go_upto_region 5 with fail
 replace HS := Hi_ ((HS.out.put 0 (.int .i64 5)).to (cs' := #[.int .i64 5, .int .i64 (place l E p), .string ⟨#[]⟩, .string ⟨#[]⟩, .int .i64 0, .int .i64 0, .int .i64 0, .string ⟨#[]⟩, .slice none 0 0, .int .i64 0, .int .i64 0, .int .i64 0, .string ⟨#[]⟩, .slice none 0 0, .slice none 0 0, .slice none 0 0, .slice none 0 0]) rfl)
 generalize World.setCell _ _ _ = wv2 at *
 clear c0 g0
 go_wp2_with fail
 refine (HEX.out _ (p + 1) hlt (HS.out.bel h0 hg) HS.out.1).mono ?_
 rintro r wv3 hres
 generalize exprD l E 60 ((p + 1), false) = xe at *
 obtain ⟨e, q1, fe⟩ := xe
 dsimp only at *
 cases fe with
 | true =>
  obtain ⟨hgn, rfl⟩ := PsR.bad hres rfl
  have HG := Hi_ (HS.out.grew.trans hgn)
  clear hgn hres
  go_wp2
  exact ⟨rfl, .mkBad (by rw [HEQ.out]; exact needD_bad (l := l) (s := semiB)) HG.out⟩
 | false =>
 obtain ⟨hgn, hpn, A1, c1, rfl, hse, hsl⟩ := PsR.good hres rfl
 have HSZ := HS.out.size
 replace HS := Hi_ (HS.out.grown hgn hpn)
 replace HS := Hi_ HS.out.fresh
 have HE := Hi_ (low_mono (B' := (Q + 1)) teR_more HSZ hsl)
 clear hgn hpn hres hsl HSZ
 have c9 := HS.out.cell 9 (v := .int .i64 0) rfl
 have g9 := HS.out.frozen 9
 have c10 := HS.out.cell 10 (v := .int .i64 0) rfl
 have g10 := HS.out.frozen 10
 have c11 := HS.out.cell 11 (v := .int .i64 0) rfl
 have g11 := HS.out.frozen 11
 have c12 := HS.out.cell 12 (v := .string ⟨#[]⟩) rfl
 have g12 := HS.out.frozen 12
 have c13 := HS.out.cell 13 (v := .slice none 0 0) rfl
 have g13 := HS.out.frozen 13
 go_upto_region 9 with fail
 replace HS := Hi_ ((((((HS.out.put 9 (.int .i64 e.kind)).put 10 (.int .i64 e.at_)).put 11 (.int .i64 e.n)).put 12 (.string e.name)).put 13 (.slice A1 e.args.length c1)).to (cs' := #[.int .i64 5, .int .i64 (place l E p), .string ⟨#[]⟩, .string ⟨#[]⟩, .int .i64 0, .int .i64 0, .int .i64 0, .string ⟨#[]⟩, .slice none 0 0, .int .i64 e.kind, .int .i64 e.at_, .int .i64 e.n, .string e.name, .slice A1 e.args.length c1, .slice none 0 0, .slice none 0 0, .slice none 0 0]) rfl)
 generalize World.setCell _ _ _ = wv4 at *
 clear c9 g9 c10 g10 c11 g11 c12 g12 c13 g13
 have hgq : wv4.heap.size ≠ g := by have := HS.out.lt; have := HS.out.size; omega
 have hba := (Bel.rfl_ wv4).al (.cells #[.string ⟨#[59]⟩] 9)
 replace HS := Hi_ (HS.out.keep hba)
 go_wp2_with fail
 refine (HND.out _ q1 wv4.heap.size [semiB] (HS.out.bel h0 hg) HS.out.1 (by decide) (by decide) (Blk.new wv4 _ _) hgq).mono ?_
 rintro r wv5 hres
 clear hba hgq
 have hnd : needsD l [semiB] (q1, false) = (needD l semiB (q1, false)) := rfl
 rw [hnd] at hres
 clear hnd
 generalize (needD l semiB (q1, false)) = st at *
 obtain ⟨qn, fs⟩ := st
 cases fs with
 | true =>
  obtain ⟨hgn, rfl⟩ := hres.bad rfl
  have HG := Hi_ (HS.out.grew.trans hgn)
  clear hgn hres
  go_wp2
  exact ⟨rfl, .mkBad (by rw [HEQ.out]) HG.out⟩
 | false =>
 obtain ⟨hgn, hpn, rfl⟩ := hres.good rfl
 replace HS := Hi_ (HS.out.grown hgn hpn)
 clear hgn hpn hres
 replace HE := Hi_ (HE.out.keep HS.out.low_)
 replace HS := Hi_ HS.out.fresh
 go_upto_region 10 with fail
 refine wp_move_row 53 (.tmp 3) (.tmp 2) (.tmp 29) rfl rfl rfl rfl Q w.heap.size rfl 53 _ _ HS.out.2.1 HS.out.2.2.1 rfl rfl _ Tryz.underlying53 rfl (by kernel_rfl) rfl (by simp [Value.oneCell']) ?_
 have HF := Hi_ (HS.out.row_)
 generalize World.setRow _ _ _ = W99 at *
 go_wp2
 have hlt3 := HF.out.lt
 refine bodyPost_ret (results_cell_row rfl _ _ w.heap.size 53 _ (0, 0) _ rfl HF.out.2.2.1 Tryz.underlying53 rfl (by kernel_rfl)) rfl (PCmdRes.mk HEQ.out HF.out.grew HF.out.1 ?_)
 exact TCR.shut (Nat.zero_le _) (Nat.zero_le _) (Nat.zero_le _) hse (Sl.nil_ _ _) (low_mono teR_more (by omega) (HE.out.keep HF.out.low_)) (Sl.nil_ _ _) (Sl.nil_ _ _) (Sl.nil_ _ _)
theorem low_mono1 {α : Type} {r : Rep α} (hm : More r) {B B' : Nat} {w : World} (hB : B' ≤ B) {cs : List Value} {x : α} (h : r.R (low B w) cs x) : r.R (low B' w) cs x := hm (low_monoc hB) h
set_option maxRecDepth 20000 in
set_option maxHeartbeats 4000000 in
theorem pcmd_bec (l : List Tok) (lv : Value) (E g : Nat) (p : Nat) (w0 w : World) (hl : Sl tokR w0 lv l) (hn : l.length ≤ 6000) (hok : ∀ t ∈ l, TokOk t) (hm : ∀ t ∈ l, t.text.size ≤ maxLen) (hg : w0.heap.size ≤ g) (hp : p ≤ l.length) (h0 : Bel w0 w) (h : Ps w g lv p E)
  (blk : RS → List TC × RS) (h1 : tx l p false ≠ printB) (h2 : tx l p false ≠ ifB) (h3 : tx l p false ≠ whileB) :
  Calls Tryz.prog 187 #[.pointer (some ⟨g, 0, none⟩)] w fun r w' => PCmdRes w g lv l E (cmdD l E blk (p, false)) r w' := by
 have HHE := Hi_ (pplace_any l lv p E g (w.alloc (.cells #[.int .i64 0, .int .i64 0, .string ⟨#[]⟩, .string ⟨#[]⟩, .int .i64 0, .int .i64 0, .int .i64 0, .string ⟨#[]⟩, .slice none 0 0, .int .i64 0, .int .i64 0, .int .i64 0, .string ⟨#[]⟩, .slice none 0 0, .slice none 0 0, .slice none 0 0, .slice none 0 0] 53)) ((hl.keep h0).keep ((Bel.rfl_ w).al _)) hn (h.keep ((Bel.rfl_ w).al _)))
 have HNM := Hi_ (kNM (E := E) (g := g) hl hn hm)
 have HTN := Hi_ (kTN (E := E) (g := g) hl hn)
 have HTY := Hi_ (kTY (E := E) (g := g) hl hn)
 have HSE := Hi_ (kSE (E := E) (g := g) hl hn)
 have HNA := Hi_ (kNA (E := E) hl hn hm hg)
 have HEX := Hi_ (kEX (E := E) hl hn hok hm hg)
 have HND := Hi_ (kND (E := E) hl hn hg)
 have HBH := Hi_ (kBH (E := E) (g := g) hl hn)
 have HEQ := Hi_ (cmdD_bec (E := E) (blk := blk) h1 h2 h3)
 have H1 := Hi_ h1
 have H2 := Hi_ (decide_eq_false h2)
 have H3 := Hi_ (decide_eq_false h3)
 have HBC := Hi_ (fun W (Q : Nat) (hQ : w0.heap.size ≤ Q) (hne : g ≠ Q) (hb : Bel w0 W) (h : Ps W g lv p E) (hq : Blk W Q 53 #[.int .i64 0, .int .i64 (place l E p), .string ⟨#[]⟩, .string ⟨#[]⟩, .int .i64 0, .int .i64 0, .int .i64 0, .string ⟨#[]⟩, .slice none 0 0, .int .i64 0, .int .i64 0, .int .i64 0, .string ⟨#[]⟩, .slice none 0 0, .slice none 0 0, .slice none 0 0, .slice none 0 0]) => bec_any l lv E g Q (place l E p) p w0 W hl hn hok hm hg hQ hne hp hb h hq)
 have hwz := h0.size
 clear h1 h2 h3
 go_enter Tryz.func187, Tryz.ntmps187
 go_wp2_with fail
 refine HHE.out.mono ?_
 rintro r w1 ⟨rfl, hb⟩
 have HS := Hi_ (BlP.start (p := p) h 53 #[.int .i64 0, .int .i64 0, .string ⟨#[]⟩, .string ⟨#[]⟩, .int .i64 0, .int .i64 0, .int .i64 0, .string ⟨#[]⟩, .slice none 0 0, .int .i64 0, .int .i64 0, .int .i64 0, .string ⟨#[]⟩, .slice none 0 0, .slice none 0 0, .slice none 0 0, .slice none 0 0] #[.int .i64 0, .int .i64 (place l E p), .string ⟨#[]⟩, .string ⟨#[]⟩, .int .i64 0, .int .i64 0, .int .i64 0, .string ⟨#[]⟩, .slice none 0 0, .int .i64 0, .int .i64 0, .int .i64 0, .string ⟨#[]⟩, .slice none 0 0, .slice none 0 0, .slice none 0 0, .slice none 0 0] hb)
 clear hb HHE h
 go_upto_region 3 with fail
 generalize w1.alloc (.cells #[.int .i64 0, .int .i64 (place l E p), .string ⟨#[]⟩, .string ⟨#[]⟩, .int .i64 0, .int .i64 0, .int .i64 0, .string ⟨#[]⟩, .slice none 0 0, .int .i64 0, .int .i64 0, .int .i64 0, .string ⟨#[]⟩, .slice none 0 0, .slice none 0 0, .slice none 0 0, .slice none 0 0] 53) = W2 at *
 generalize w1.heap.size = Q at *
 go_wp2_with fail
 refine (HTN.out _ p printB (by decide) H1.out (HS.out.bel h0 hg) HS.out.1).mono ?_
 rintro r wv1 ⟨rfl, hb⟩
 replace HS := Hi_ (HS.out.keep hb)
 clear hb
 go_wp2_with fail
 refine (HSE.out _ p ifB false (by decide) H2.out (HS.out.bel h0 hg) HS.out.1).mono ?_
 rintro r wv2 ⟨rfl, hb⟩
 replace HS := Hi_ (HS.out.keep hb)
 clear hb
 go_wp2_with fail
 refine (HSE.out _ p whileB false (by decide) H3.out (HS.out.bel h0 hg) HS.out.1).mono ?_
 rintro r wv3 ⟨rfl, hb⟩
 replace HS := Hi_ (HS.out.keep hb)
 clear hb
 have hlt0 := HS.out.lt
 go_wp2_with fail
 refine (HBC.out _ Q (by omega) (by omega) (HS.out.bel h0 hg) HS.out.1 HS.out.2.1).mono ?_
 rintro r wv4 hres
 generalize becD l E (place l E p) (p, false) = xe at *
 obtain ⟨c, q1, fe⟩ := xe
 dsimp only at *
 cases fe with
 | true =>
  obtain ⟨hg2, hr2, -⟩ := hres
  obtain rfl := hr2 rfl
  have HG := Hi_ ((HS.out.g2b hg2).1)
  clear hg2 hr2
  go_wp2
  exact ⟨rfl, .mkBad (by rw [HEQ.out]; exact needD_bad (l := l) (s := semiB)) HG.out⟩
 | false =>
 obtain ⟨hg2, -, hr2⟩ := hres
 obtain ⟨rfl, hp2, cs, hq2, hcs⟩ := hr2 rfl
 have HSZ := HS.out.size
 have hcl : cs.length = 17 := tcR.len hcs
 have HCS := Hi_ (low_mono1 (B' := Q + 1) tcR_more HSZ hcs)
 have HONE := Hi_ (tcR_one hcs)
 have hcl2 : cs.toArray.size = 17 := by simpa using hcl
 have hinf : (Tryz.prog.info? 53).map (·.size) = some cs.toArray.size := by rw [List.size_toArray, hcl]; kernel_rfl
 replace HS := Hi_ ((HS.out.g2 hg2 hp2 hq2).fresh)
 clear hg2 hr2 hp2 hq2 hcs HSZ
 have hgq : wv4.heap.size ≠ g := by have := HS.out.lt; have := HS.out.size; omega
 have hba := (Bel.rfl_ wv4).al (.cells #[.string ⟨#[59]⟩] 9)
 replace HS := Hi_ (HS.out.keep hba)
 go_wp2_with fail
 refine (HND.out _ q1 wv4.heap.size [semiB] (HS.out.bel h0 hg) HS.out.1 (by decide) (by decide) (Blk.new wv4 _ _) hgq).mono ?_
 rintro r wv5 hres
 clear hba hgq
 have hnd : needsD l [semiB] (q1, false) = (needD l semiB (q1, false)) := rfl
 rw [hnd] at hres
 clear hnd
 generalize (needD l semiB (q1, false)) = st at *
 obtain ⟨qn, fs⟩ := st
 cases fs with
 | true =>
  obtain ⟨hgn, rfl⟩ := hres.bad rfl
  have HG := Hi_ (HS.out.grew.trans hgn)
  clear hgn hres
  go_wp2
  exact ⟨rfl, .mkBad (by rw [HEQ.out]) HG.out⟩
 | false =>
 obtain ⟨hgn, hpn, rfl⟩ := hres.good rfl
 replace HS := Hi_ (HS.out.grown hgn hpn)
 clear hgn hpn hres
 replace HCS := Hi_ (tcR.keep HS.out.low_ HCS.out)
 replace HS := Hi_ HS.out.fresh
 go_upto_region 10 with fail
 refine wp_move_row 53 (.tmp 3) (.tmp 2) (.tmp 29) rfl rfl rfl rfl Q w.heap.size rfl 53 _ _ HS.out.2.1 HS.out.2.2.1 rfl rfl _ Tryz.underlying53 rfl hinf hcl2.symm (all_oneCell_toArray HONE.out) ?_
 have HF := Hi_ (HS.out.row_)
 generalize World.setRow _ _ _ = W99 at *
 go_wp2
 have hlt3 := HF.out.lt
 refine bodyPost_ret (results_cell_row rfl _ _ w.heap.size 53 _ (0, 0) _ rfl HF.out.2.2.1 Tryz.underlying53 rfl hinf) rfl (PCmdRes.mk HEQ.out HF.out.grew HF.out.1 ?_)
 exact low_mono1 tcR_more (by omega) (tcR.keep HF.out.low_ HCS.out)
set_option maxRecDepth 20000 in
set_option maxHeartbeats 4000000 in
theorem pcmd_if (l : List Tok) (lv : Value) (E g : Nat) (p : Nat) (w0 w : World) (hl : Sl tokR w0 lv l) (hn : l.length ≤ 6000) (hok : ∀ t ∈ l, TokOk t) (hm : ∀ t ∈ l, t.text.size ≤ maxLen) (hg : w0.heap.size ≤ g) (hp : p ≤ l.length) (h0 : Bel w0 w) (h : Ps w g lv p E)
  (m : Nat) (hlm : l.length - p < m + 1) (blk : RS → List TC × RS) (hbG : ∀ q, Ge l q (blk q).2) (hbB : ∀ k, (blk (k, true)).2 = (k, true))
  (hblk : ∀ W k, k ≤ l.length → l.length - k < m → Bel w0 W → Ps W g lv k E → Calls Tryz.prog 218 #[.pointer (some ⟨g, 0, none⟩)] W fun r w' => PListRes W g lv l E (blk (k, false)) r w')
  (h3 : tx l p false = ifB) :
  Calls Tryz.prog 187 #[.pointer (some ⟨g, 0, none⟩)] w fun r w' => PCmdRes w g lv l E (cmdD l E blk (p, false)) r w' := by
 have HHE := Hi_ (pplace_any l lv p E g (w.alloc (.cells #[.int .i64 0, .int .i64 0, .string ⟨#[]⟩, .string ⟨#[]⟩, .int .i64 0, .int .i64 0, .int .i64 0, .string ⟨#[]⟩, .slice none 0 0, .int .i64 0, .int .i64 0, .int .i64 0, .string ⟨#[]⟩, .slice none 0 0, .slice none 0 0, .slice none 0 0, .slice none 0 0] 53)) ((hl.keep h0).keep ((Bel.rfl_ w).al _)) hn (h.keep ((Bel.rfl_ w).al _)))
 have HNM := Hi_ (kNM (E := E) (g := g) hl hn hm)
 have HTN := Hi_ (kTN (E := E) (g := g) hl hn)
 have HTY := Hi_ (kTY (E := E) (g := g) hl hn)
 have HSE := Hi_ (kSE (E := E) (g := g) hl hn)
 have HNA := Hi_ (kNA (E := E) hl hn hm hg)
 have HEX := Hi_ (kEX (E := E) hl hn hok hm hg)
 have HND := Hi_ (kND (E := E) hl hn hg)
 have HBH := Hi_ (kBH (E := E) (g := g) hl hn)
 have H2 := Hi_ (decide_eq_true h3)
 have H1 : Hid (tx l p false ≠ printB) := Hi_ (by rw [h3]; decide)
 have HBC := Hi_ (fun W (Q : Nat) (hQ : w0.heap.size ≤ Q) (hne : g ≠ Q) (hb : Bel w0 W) (h : Ps W g lv p E) (hq : Blk W Q 53 #[.int .i64 0, .int .i64 (place l E p), .string ⟨#[]⟩, .string ⟨#[]⟩, .int .i64 0, .int .i64 0, .int .i64 0, .string ⟨#[]⟩, .slice none 0 0, .int .i64 0, .int .i64 0, .int .i64 0, .string ⟨#[]⟩, .slice none 0 0, .slice none 0 0, .slice none 0 0, .slice none 0 0]) => inner_if l lv E g Q p w0 W hl hn hok hm hg hQ hne hp hb h hq m hlm blk hbG hbB hblk h3)
 have hwz := h0.size
 obtain ⟨xe, hxe⟩ : ∃ x, x = cmdD l E blk (p, false) := ⟨_, rfl⟩
 rw [← hxe] at HBC ⊢
 clear hxe h3 hblk hbB hbG
 obtain ⟨c, q1, fe⟩ := xe
 go_enter Tryz.func187, Tryz.ntmps187
 go_wp2_with fail
 refine HHE.out.mono ?_
 rintro r w1 ⟨rfl, hb⟩
 have HS := Hi_ (BlP.start (p := p) h 53 #[.int .i64 0, .int .i64 0, .string ⟨#[]⟩, .string ⟨#[]⟩, .int .i64 0, .int .i64 0, .int .i64 0, .string ⟨#[]⟩, .slice none 0 0, .int .i64 0, .int .i64 0, .int .i64 0, .string ⟨#[]⟩, .slice none 0 0, .slice none 0 0, .slice none 0 0, .slice none 0 0] #[.int .i64 0, .int .i64 (place l E p), .string ⟨#[]⟩, .string ⟨#[]⟩, .int .i64 0, .int .i64 0, .int .i64 0, .string ⟨#[]⟩, .slice none 0 0, .int .i64 0, .int .i64 0, .int .i64 0, .string ⟨#[]⟩, .slice none 0 0, .slice none 0 0, .slice none 0 0, .slice none 0 0] hb)
 clear hb HHE h
 go_upto_region 3 with fail
 generalize w1.alloc (.cells #[.int .i64 0, .int .i64 (place l E p), .string ⟨#[]⟩, .string ⟨#[]⟩, .int .i64 0, .int .i64 0, .int .i64 0, .string ⟨#[]⟩, .slice none 0 0, .int .i64 0, .int .i64 0, .int .i64 0, .string ⟨#[]⟩, .slice none 0 0, .slice none 0 0, .slice none 0 0, .slice none 0 0] 53) = W2 at *
 generalize w1.heap.size = Q at *
 go_wp2_with fail
 refine (HTN.out _ p printB (by decide) H1.out (HS.out.bel h0 hg) HS.out.1).mono ?_
 rintro r wv1 ⟨rfl, hb⟩
 replace HS := Hi_ (HS.out.keep hb)
 clear hb
 go_wp2_with fail
 refine (HSE.out _ p ifB true (by decide) H2.out (HS.out.bel h0 hg) HS.out.1).mono ?_
 rintro r wv2 ⟨rfl, hb⟩
 replace HS := Hi_ (HS.out.keep hb)
 clear hb
 have hlt0 := HS.out.lt
 go_wp2_with fail
 refine (HBC.out _ Q (by omega) (by omega) (HS.out.bel h0 hg) HS.out.1 HS.out.2.1).mono ?_
 rintro r wv3 hres
 cases fe with
 | true =>
  obtain ⟨hg2, hr2, -⟩ := hres
  obtain rfl := hr2 rfl
  have HG := Hi_ ((HS.out.g2b hg2).1)
  clear hg2 hr2
  go_wp2
  exact ⟨rfl, .mkBad rfl HG.out⟩
 | false =>
 obtain ⟨hg2, -, hr2⟩ := hres
 obtain ⟨rfl, hp2, cs, hq2, hcs⟩ := hr2 rfl
 dsimp only at hp2 hcs
 have HSZ := HS.out.size
 have hcl : cs.length = 17 := tcR.len hcs
 have HCS := Hi_ (low_mono1 (B' := Q + 1) tcR_more HSZ hcs)
 have HONE := Hi_ (tcR_one hcs)
 have hcl2 : cs.toArray.size = 17 := by simpa using hcl
 have hinf : (Tryz.prog.info? 53).map (·.size) = some cs.toArray.size := by rw [List.size_toArray, hcl]; kernel_rfl
 replace HS := Hi_ ((HS.out.g2 hg2 hp2 hq2).fresh)
 clear hg2 hr2 hp2 hq2 hcs HSZ
 go_upto_region 8 with fail
 refine wp_move_row 53 (.tmp 3) (.tmp 2) (.tmp 25) rfl rfl rfl rfl Q w.heap.size rfl 53 _ _ HS.out.2.1 HS.out.2.2.1 rfl rfl _ Tryz.underlying53 rfl hinf hcl2.symm (all_oneCell_toArray HONE.out) ?_
 have HF := Hi_ (HS.out.row_)
 generalize World.setRow _ _ _ = W99 at *
 go_wp2
 have hlt3 := HF.out.lt
 refine bodyPost_ret (results_cell_row rfl _ _ w.heap.size 53 _ (0, 0) _ rfl HF.out.2.2.1 Tryz.underlying53 rfl hinf) rfl (PCmdRes.mk rfl HF.out.grew HF.out.1 ?_)
 exact low_mono1 tcR_more (by omega) (tcR.keep HF.out.low_ HCS.out)
set_option maxRecDepth 20000 in
set_option maxHeartbeats 4000000 in
theorem pcmd_while (l : List Tok) (lv : Value) (E g : Nat) (p : Nat) (w0 w : World) (hl : Sl tokR w0 lv l) (hn : l.length ≤ 6000) (hok : ∀ t ∈ l, TokOk t) (hm : ∀ t ∈ l, t.text.size ≤ maxLen) (hg : w0.heap.size ≤ g) (hp : p ≤ l.length) (h0 : Bel w0 w) (h : Ps w g lv p E)
  (m : Nat) (hlm : l.length - p < m + 1) (blk : RS → List TC × RS) (hbG : ∀ q, Ge l q (blk q).2) (hbB : ∀ k, (blk (k, true)).2 = (k, true))
  (hblk : ∀ W k, k ≤ l.length → l.length - k < m → Bel w0 W → Ps W g lv k E → Calls Tryz.prog 218 #[.pointer (some ⟨g, 0, none⟩)] W fun r w' => PListRes W g lv l E (blk (k, false)) r w')
  (h3 : tx l p false = whileB) :
  Calls Tryz.prog 187 #[.pointer (some ⟨g, 0, none⟩)] w fun r w' => PCmdRes w g lv l E (cmdD l E blk (p, false)) r w' := by
 have HHE := Hi_ (pplace_any l lv p E g (w.alloc (.cells #[.int .i64 0, .int .i64 0, .string ⟨#[]⟩, .string ⟨#[]⟩, .int .i64 0, .int .i64 0, .int .i64 0, .string ⟨#[]⟩, .slice none 0 0, .int .i64 0, .int .i64 0, .int .i64 0, .string ⟨#[]⟩, .slice none 0 0, .slice none 0 0, .slice none 0 0, .slice none 0 0] 53)) ((hl.keep h0).keep ((Bel.rfl_ w).al _)) hn (h.keep ((Bel.rfl_ w).al _)))
 have HNM := Hi_ (kNM (E := E) (g := g) hl hn hm)
 have HTN := Hi_ (kTN (E := E) (g := g) hl hn)
 have HTY := Hi_ (kTY (E := E) (g := g) hl hn)
 have HSE := Hi_ (kSE (E := E) (g := g) hl hn)
 have HNA := Hi_ (kNA (E := E) hl hn hm hg)
 have HEX := Hi_ (kEX (E := E) hl hn hok hm hg)
 have HND := Hi_ (kND (E := E) hl hn hg)
 have HBH := Hi_ (kBH (E := E) (g := g) hl hn)
 have H2 : Hid (decide (tx l p false = ifB) = false) := Hi_ (decide_eq_false (by rw [h3]; decide))
 have H3 := Hi_ (decide_eq_true h3)
 have H1 : Hid (tx l p false ≠ printB) := Hi_ (by rw [h3]; decide)
 have HBC := Hi_ (fun W (Q : Nat) (hQ : w0.heap.size ≤ Q) (hne : g ≠ Q) (hb : Bel w0 W) (h : Ps W g lv p E) (hq : Blk W Q 53 #[.int .i64 0, .int .i64 (place l E p), .string ⟨#[]⟩, .string ⟨#[]⟩, .int .i64 0, .int .i64 0, .int .i64 0, .string ⟨#[]⟩, .slice none 0 0, .int .i64 0, .int .i64 0, .int .i64 0, .string ⟨#[]⟩, .slice none 0 0, .slice none 0 0, .slice none 0 0, .slice none 0 0]) => inner_while l lv E g Q p w0 W hl hn hok hm hg hQ hne hp hb h hq m hlm blk hbG hbB hblk h3)
 have hwz := h0.size
 obtain ⟨xe, hxe⟩ : ∃ x, x = cmdD l E blk (p, false) := ⟨_, rfl⟩
 rw [← hxe] at HBC ⊢
 clear hxe h3 hblk hbB hbG
 obtain ⟨c, q1, fe⟩ := xe
 go_enter Tryz.func187, Tryz.ntmps187
 go_wp2_with fail
 refine HHE.out.mono ?_
 rintro r w1 ⟨rfl, hb⟩
 have HS := Hi_ (BlP.start (p := p) h 53 #[.int .i64 0, .int .i64 0, .string ⟨#[]⟩, .string ⟨#[]⟩, .int .i64 0, .int .i64 0, .int .i64 0, .string ⟨#[]⟩, .slice none 0 0, .int .i64 0, .int .i64 0, .int .i64 0, .string ⟨#[]⟩, .slice none 0 0, .slice none 0 0, .slice none 0 0, .slice none 0 0] #[.int .i64 0, .int .i64 (place l E p), .string ⟨#[]⟩, .string ⟨#[]⟩, .int .i64 0, .int .i64 0, .int .i64 0, .string ⟨#[]⟩, .slice none 0 0, .int .i64 0, .int .i64 0, .int .i64 0, .string ⟨#[]⟩, .slice none 0 0, .slice none 0 0, .slice none 0 0, .slice none 0 0] hb)
 clear hb HHE h
 go_upto_region 3 with fail
 generalize w1.alloc (.cells #[.int .i64 0, .int .i64 (place l E p), .string ⟨#[]⟩, .string ⟨#[]⟩, .int .i64 0, .int .i64 0, .int .i64 0, .string ⟨#[]⟩, .slice none 0 0, .int .i64 0, .int .i64 0, .int .i64 0, .string ⟨#[]⟩, .slice none 0 0, .slice none 0 0, .slice none 0 0, .slice none 0 0] 53) = W2 at *
 generalize w1.heap.size = Q at *
 go_wp2_with fail
 refine (HTN.out _ p printB (by decide) H1.out (HS.out.bel h0 hg) HS.out.1).mono ?_
 rintro r wv1 ⟨rfl, hb⟩
 replace HS := Hi_ (HS.out.keep hb)
 clear hb
 go_wp2_with fail
 refine (HSE.out _ p ifB false (by decide) H2.out (HS.out.bel h0 hg) HS.out.1).mono ?_
 rintro r wv2 ⟨rfl, hb⟩
 replace HS := Hi_ (HS.out.keep hb)
 clear hb
 go_wp2_with fail
 refine (HSE.out _ p whileB true (by decide) H3.out (HS.out.bel h0 hg) HS.out.1).mono ?_
 rintro r wv3 ⟨rfl, hb⟩
 replace HS := Hi_ (HS.out.keep hb)
 clear hb
 have hlt0 := HS.out.lt
 go_wp2_with fail
 refine (HBC.out _ Q (by omega) (by omega) (HS.out.bel h0 hg) HS.out.1 HS.out.2.1).mono ?_
 rintro r wv4 hres
 cases fe with
 | true =>
  obtain ⟨hg2, hr2, -⟩ := hres
  obtain rfl := hr2 rfl
  have HG := Hi_ ((HS.out.g2b hg2).1)
  clear hg2 hr2
  go_wp2
  exact ⟨rfl, .mkBad rfl HG.out⟩
 | false =>
 obtain ⟨hg2, -, hr2⟩ := hres
 obtain ⟨rfl, hp2, cs, hq2, hcs⟩ := hr2 rfl
 dsimp only at hp2 hcs
 have HSZ := HS.out.size
 have hcl : cs.length = 17 := tcR.len hcs
 have HCS := Hi_ (low_mono1 (B' := Q + 1) tcR_more HSZ hcs)
 have HONE := Hi_ (tcR_one hcs)
 have hcl2 : cs.toArray.size = 17 := by simpa using hcl
 have hinf : (Tryz.prog.info? 53).map (·.size) = some cs.toArray.size := by rw [List.size_toArray, hcl]; kernel_rfl
 replace HS := Hi_ ((HS.out.g2 hg2 hp2 hq2).fresh)
 clear hg2 hr2 hp2 hq2 hcs HSZ
 go_upto_region 8 with fail
 refine wp_move_row 53 (.tmp 3) (.tmp 2) (.tmp 25) rfl rfl rfl rfl Q w.heap.size rfl 53 _ _ HS.out.2.1 HS.out.2.2.1 rfl rfl _ Tryz.underlying53 rfl hinf hcl2.symm (all_oneCell_toArray HONE.out) ?_
 have HF := Hi_ (HS.out.row_)
 generalize World.setRow _ _ _ = W99 at *
 go_wp2
 have hlt3 := HF.out.lt
 refine bodyPost_ret (results_cell_row rfl _ _ w.heap.size 53 _ (0, 0) _ rfl HF.out.2.2.1 Tryz.underlying53 rfl hinf) rfl (PCmdRes.mk rfl HF.out.grew HF.out.1 ?_)
 exact low_mono1 tcR_more (by omega) (tcR.keep HF.out.low_ HCS.out)
/-- the program's cmd, whatever stands there -/
theorem pcmd_any (l : List Tok) (lv : Value) (E g : Nat) (p : Nat) (w0 w : World) (hl : Sl tokR w0 lv l) (hn : l.length ≤ 6000) (hok : ∀ t ∈ l, TokOk t) (hm : ∀ t ∈ l, t.text.size ≤ maxLen) (hg : w0.heap.size ≤ g) (hp : p ≤ l.length) (h0 : Bel w0 w) (h : Ps w g lv p E)
  (m : Nat) (hlm : l.length - p < m + 1) (blk : RS → List TC × RS) (hbG : ∀ q, Ge l q (blk q).2) (hbB : ∀ k, (blk (k, true)).2 = (k, true))
  (hblk : ∀ W k, k ≤ l.length → l.length - k < m → Bel w0 W → Ps W g lv k E → Calls Tryz.prog 218 #[.pointer (some ⟨g, 0, none⟩)] W fun r w' => PListRes W g lv l E (blk (k, false)) r w') :
  Calls Tryz.prog 187 #[.pointer (some ⟨g, 0, none⟩)] w fun r w' => PCmdRes w g lv l E (cmdD l E blk (p, false)) r w' := by
 by_cases h1 : tx l p false = printB
 ·exact pcmd_print l lv E g p w0 w hl hn hok hm hg hp h0 h blk h1
 by_cases h2 : tx l p false = ifB
 ·exact pcmd_if l lv E g p w0 w hl hn hok hm hg hp h0 h m hlm blk hbG hbB hblk h2
 by_cases h3 : tx l p false = whileB
 ·exact pcmd_while l lv E g p w0 w hl hn hok hm hg hp h0 h m hlm blk hbG hbB hblk h3
 exact pcmd_bec l lv E g p w0 w hl hn hok hm hg hp h0 h blk h1 h2 h3
end Go.Proofs.YtmfjlcpjemccmaaGreatDoor
