/- The program's becomes: walked. Each lemma states its own conditions. -/
import Derived.Test.YtmfjlcpjemccmaaGreatDoorTts27
namespace Go.Proofs.YtmfjlcpjemccmaaGreatDoor
open Go.RowKit
theorem becD_none {l : List Tok} {E : Nat} {A0 : Int} {p : Nat} (hi : isName (tx l p false) = false) : (becD l E A0 (p, false)).2 = (p, true) := by
 unfold becD
 simp only []
 rw [nameD_no hi, if_neg (by rw [tx_bad]; decide), needD_bad, if_neg (by rw [tx_bad]; decide), if_neg (by rw [tx_bad, isName_emp]; rintro ⟨h, -⟩; cases h)]
 exact exprD_bad (l := l) (E := E) 60 p
section
variable {l : List Tok} {E : Nat} {A0 : Int} {p : Nat} (hi : isName (tx l p false) = true)
include hi
theorem becD_put (h4 : tx l (p + 1) false = lsqB) : becD l E A0 (p, false) = (.mk 2 A0 (tx l p false) emp (exprD l E 60 (p + 1 + 1, false)).1 (exprD l E 60 (needD l eqB (needD l rsqB (exprD l E 60 (p + 1 + 1, false)).2))).1 [] [] [], (exprD l E 60 (needD l eqB (needD l rsqB (exprD l E 60 (p + 1 + 1, false)).2))).2) := by
 unfold becD
 simp only []
 rw [nameD_yes hi, if_pos h4, needD_yes h4]
variable (h4 : tx l (p + 1) false ≠ lsqB)
include h4
theorem becD_off (h5 : tx l (p + 1) false ≠ eqB) : (becD l E A0 (p, false)).2 = (p + 1, true) := by
 unfold becD
 simp only []
 rw [nameD_yes hi, if_neg h4, needD_no h5, if_neg (by rw [tx_bad]; decide), if_neg (by rw [tx_bad, isName_emp]; rintro ⟨h, -⟩; cases h)]
 exact exprD_bad (l := l) (E := E) 60 (p + 1)
variable (h5 : tx l (p + 1) false = eqB)
include h5
theorem becD_read (h6 : tx l (p + 1 + 1) false = readB) : becD l E A0 (p, false) = (.mk 4 A0 (tx l p false) emp zeroE zeroE [] [] [], (p + 1 + 1 + 1, false)) := by
 unfold becD
 simp only []
 rw [nameD_yes hi, if_neg h4, needD_yes h5, if_pos h6, needD_yes h6]
variable (h6 : tx l (p + 1 + 1) false ≠ readB)
include h6
theorem becD_set (h7 : ¬ (isName (tx l (p + 1 + 1) false) = true ∧ tx l (p + 1 + 1 + 1) false = lparB)) : becD l E A0 (p, false) = (.mk 1 A0 (tx l p false) emp zeroE (exprD l E 60 (p + 1 + 1, false)).1 [] [] [], (exprD l E 60 (p + 1 + 1, false)).2) := by
 unfold becD
 simp only []
 rw [nameD_yes hi, if_neg h4, needD_yes h5, if_neg h6, if_neg (show ¬ (isName (tx l (p + 1 + 1, false).1 (p + 1 + 1, false).2) = true ∧ tx1 l (p + 1 + 1, false) = lparB) from h7)]
theorem becD_call (h7 : isName (tx l (p + 1 + 1) false) = true) (h8 : tx l (p + 1 + 1 + 1) false = lparB) : becD l E A0 (p, false) = (.mk 3 A0 (tx l p false) (tx l (p + 1 + 1) false) zeroE zeroE (argsD l E (l.length + 1) 0 (p + 1 + 1 + 1 + 1, false)).1 [] [], needD l rparB (argsD l E (l.length + 1) 0 (p + 1 + 1 + 1 + 1, false)).2) := by
 unfold becD
 simp only []
 rw [nameD_yes hi, if_neg h4, needD_yes h5, if_neg h6, if_pos (show isName (tx l (p + 1 + 1, false).1 (p + 1 + 1, false).2) = true ∧ tx1 l (p + 1 + 1, false) = lparB from ⟨h7, h8⟩), nameD_yes h7, needD_yes h8]
end
set_option maxRecDepth 20000 in
set_option maxHeartbeats 4000000 in
theorem bec_none (l : List Tok) (lv : Value) (E g Q : Nat) (A0 : Int) (p : Nat) (w0 w : World) (hl : Sl tokR w0 lv l) (hn : l.length ≤ 6000) (hok : ∀ t ∈ l, TokOk t) (hm : ∀ t ∈ l, t.text.size ≤ maxLen) (hg : w0.heap.size ≤ g) (hQ : w0.heap.size ≤ Q) (hne : g ≠ Q) (_hp : p ≤ l.length) (h0 : Bel w0 w) (h : Ps w g lv p E) (hq : Blk w Q 53 #[.int .i64 0, .int .i64 A0, .string ⟨#[]⟩, .string ⟨#[]⟩, .int .i64 0, .int .i64 0, .int .i64 0, .string ⟨#[]⟩, .slice none 0 0, .int .i64 0, .int .i64 0, .int .i64 0, .string ⟨#[]⟩, .slice none 0 0, .slice none 0 0, .slice none 0 0, .slice none 0 0])
  (hi : isName (tx l p false) = false) :
  Calls Tryz.prog 210 #[.pointer (some ⟨g, 0, none⟩), .pointer (some ⟨Q, 0, none⟩)] w fun r w' => BecRes w g lv l E Q (becD l E A0 (p, false)) r w' := by
 have HNM := Hi_ (kNM (E := E) (g := g) hl hn hm)
 have HTN := Hi_ (kTN (E := E) (g := g) hl hn)
 have HTY := Hi_ (kTY (E := E) (g := g) hl hn)
 have HSE := Hi_ (kSE (E := E) (g := g) hl hn)
 have HNA := Hi_ (kNA (E := E) hl hn hm hg)
 have HEX := Hi_ (kEX (E := E) hl hn hok hm hg)
 have HND := Hi_ (kND (E := E) hl hn hg)
 have HBH := Hi_ (kBH (E := E) (g := g) hl hn)
 have HEQ := Hi_ (becD_none (E := E) (A0 := A0) hi)
 have HN := Hi_ (nameD_no hi)
 have hgl := h.lt
 have hql := hq.lt
 have HS := Hi_ (Bec.start h hq hne)
 clear h hq
 go_enter Tryz.func210, Tryz.ntmps210
 go_upto_region 1 with fail
 have hba := ((Bel.rfl_ w).al (.cells #[.pointer (some ⟨g, 0, none⟩)] 86)).al (.cells #[.pointer (some ⟨Q, 0, none⟩)] 228)
 have HX := Hi_ (show BoxS w.heap.size (w.heap.size + 1) g Q _ from ⟨(Blk.new w 86 #[.pointer (some ⟨g, 0, none⟩)]).keep ((Bel.rfl_ _).al (.cells #[.pointer (some ⟨Q, 0, none⟩)] 228)), by
  have := Blk.new (w.alloc (.cells #[.pointer (some ⟨g, 0, none⟩)] 86)) 228 #[.pointer (some ⟨Q, 0, none⟩)]
  rwa [World.size_alloc] at this⟩)
 replace HS := Hi_ (HS.out.keep hba).fresh
 clear hba
 generalize (w.alloc (.cells #[.pointer (some ⟨g, 0, none⟩)] 86)).alloc (.cells #[.pointer (some ⟨Q, 0, none⟩)] 228) = W0 at *
 refine wp_region_held_drew (S := BoxS w.heap.size (w.heap.size + 1) g Q) (by kernel_rfl) (HX.out.keep ((Bel.rfl_ _).dr)) (fun hS => ?_)
 replace HS := Hi_ (HS.out.keep ((Bel.rfl_ _).dr))
 clear HX
 refine rt_t (i := 0) (some 4) (.pointer (some ⟨Q, 0, none⟩)) rfl hS (fun V h => rl_pc rfl (by kernel_rfl) (h.2.cell (i := 0) (v := .pointer (some ⟨Q, 0, none⟩)) rfl)) ?_
 refine rt_t (i := 1) (some 5) (.pointer (some ⟨g, 0, none⟩)) rfl hS (fun V h => rl_pp rfl (by kernel_rfl) (h.1.cell (i := 0) (v := .pointer (some ⟨g, 0, none⟩)) rfl)) ?_
 refine rt_callp (i := 2) (some 6) (by kernel_rfl) rfl rfl (by kernel_rfl) 181 #[.pointer (some ⟨g, 0, none⟩)] (by kernel_rfl) (HNA.out _ p (HS.out.bel h0 hg hQ) HS.out.1) ?_
 rintro r w1 hres
 rw [HN.out] at hres
 dsimp only at hres
 obtain ⟨hgn, rfl⟩ := hres.bad rfl
 have HG := Hi_ (HS.out.grew.par hgn)
 clear hgn hres
 refine Or.inr ⟨_, rfl, ?_⟩
 exact ⟨rfl, .mkBad HEQ.out HG.out⟩
set_option maxRecDepth 20000 in
set_option maxHeartbeats 4000000 in
theorem bec_put (l : List Tok) (lv : Value) (E g Q : Nat) (A0 : Int) (p : Nat) (w0 w : World) (hl : Sl tokR w0 lv l) (hn : l.length ≤ 6000) (hok : ∀ t ∈ l, TokOk t) (hm : ∀ t ∈ l, t.text.size ≤ maxLen) (hg : w0.heap.size ≤ g) (hQ : w0.heap.size ≤ Q) (hne : g ≠ Q) (_hp : p ≤ l.length) (h0 : Bel w0 w) (h : Ps w g lv p E) (hq : Blk w Q 53 #[.int .i64 0, .int .i64 A0, .string ⟨#[]⟩, .string ⟨#[]⟩, .int .i64 0, .int .i64 0, .int .i64 0, .string ⟨#[]⟩, .slice none 0 0, .int .i64 0, .int .i64 0, .int .i64 0, .string ⟨#[]⟩, .slice none 0 0, .slice none 0 0, .slice none 0 0, .slice none 0 0])
  (hi : isName (tx l p false) = true) (h4 : tx l (p + 1) false = lsqB) :
  Calls Tryz.prog 210 #[.pointer (some ⟨g, 0, none⟩), .pointer (some ⟨Q, 0, none⟩)] w fun r w' => BecRes w g lv l E Q (becD l E A0 (p, false)) r w' := by
 have HNM := Hi_ (kNM (E := E) (g := g) hl hn hm)
 have HTN := Hi_ (kTN (E := E) (g := g) hl hn)
 have HTY := Hi_ (kTY (E := E) (g := g) hl hn)
 have HSE := Hi_ (kSE (E := E) (g := g) hl hn)
 have HNA := Hi_ (kNA (E := E) hl hn hm hg)
 have HEX := Hi_ (kEX (E := E) hl hn hok hm hg)
 have HND := Hi_ (kND (E := E) hl hn hg)
 have HBH := Hi_ (kBH (E := E) (g := g) hl hn)
 have HEQ := Hi_ (becD_put (E := E) (A0 := A0) hi h4)
 have HN := Hi_ (nameD_yes hi)
 have hns := tok_max (l := l) (p := p) (f := false) hm
 have H4 := Hi_ h4
 have hlt := tx_lt (l := l) (p := p + 1) (f := false) (by rw [h4]; decide)
 have HLE := Hi_ (fun q hq => exprD_le (E := E) hok 60 q hq)
 have HNL := Hi_ (fun (s : ByteArray) (hs : s ≠ emp) (q : RS) (hq : q.1 ≤ l.length) => needD_le (l := l) hs hq)
 clear hi h4
 have hgl := h.lt
 have hql := hq.lt
 have HS := Hi_ (Bec.start h hq hne)
 clear h hq
 go_enter Tryz.func210, Tryz.ntmps210
 go_upto_region 1 with fail
 have hba := ((Bel.rfl_ w).al (.cells #[.pointer (some ⟨g, 0, none⟩)] 86)).al (.cells #[.pointer (some ⟨Q, 0, none⟩)] 228)
 have HX := Hi_ (show BoxS w.heap.size (w.heap.size + 1) g Q _ from ⟨(Blk.new w 86 #[.pointer (some ⟨g, 0, none⟩)]).keep ((Bel.rfl_ _).al (.cells #[.pointer (some ⟨Q, 0, none⟩)] 228)), by
  have := Blk.new (w.alloc (.cells #[.pointer (some ⟨g, 0, none⟩)] 86)) 228 #[.pointer (some ⟨Q, 0, none⟩)]
  rwa [World.size_alloc] at this⟩)
 replace HS := Hi_ (HS.out.keep hba).fresh
 clear hba
 generalize (w.alloc (.cells #[.pointer (some ⟨g, 0, none⟩)] 86)).alloc (.cells #[.pointer (some ⟨Q, 0, none⟩)] 228) = W0 at *
 go_upto_region 1 with fail
 refine wp_region_held_drew (S := BoxS w.heap.size (w.heap.size + 1) g Q) (by kernel_rfl) (HX.out.keep ((Bel.rfl_ _).dr)) (fun hS => ?_)
 replace HS := Hi_ (HS.out.keep ((Bel.rfl_ _).dr))
 clear HX
 refine rt_t (i := 0) (some 4) (.pointer (some ⟨Q, 0, none⟩)) rfl hS (fun V h => rl_pc rfl (by kernel_rfl) (h.2.cell (i := 0) (v := .pointer (some ⟨Q, 0, none⟩)) rfl)) ?_
 refine rt_t (i := 1) (some 5) (.pointer (some ⟨g, 0, none⟩)) rfl hS (fun V h => rl_pp rfl (by kernel_rfl) (h.1.cell (i := 0) (v := .pointer (some ⟨g, 0, none⟩)) rfl)) ?_
 refine rt_callp (i := 2) (some 6) (by kernel_rfl) rfl rfl (by kernel_rfl) 181 #[.pointer (some ⟨g, 0, none⟩)] (by kernel_rfl) (HNA.out _ p (HS.out.bel h0 hg hQ) HS.out.1) ?_
 rintro r wv1 hres
 rw [HN.out] at hres
 dsimp only at hres
 obtain ⟨hgn, hpn, rfl⟩ := hres.good rfl
 replace HS := Hi_ (HS.out.grown hgn hpn)
 replace hS := hS.g2 ((G2.refl _ _ _).par hgn) (by omega) (by omega)
 clear hgn hpn hres
 refine Or.inl ⟨_, rfl, hS, fun hS => ?_⟩
 refine rt_t (i := 3) (some 7) (.pointer (some ⟨Q, 0, none⟩)) rfl hS (fun W _ => by kernel_rfl) ?_
 refine rt_t (i := 4) (some 8) (.pointer (some ⟨Q, 2, none⟩)) rfl hS (fun W _ => by kernel_rfl) ?_
 have c2 := HS.out.cell 2 (v := .string ⟨#[]⟩) rfl
 refine rt_st (i := 5) none (by kernel_rfl) rfl rfl (by kernel_rfl) _ (rs_str (b := Q) (f := 2) (s := tx l p false) rfl (by kernel_rfl) (by kernel_rfl) c2 (HS.out.frozen 2)) (BoxS.set_ hS (by omega) (by omega) _ _) (fun hS => ?_)
 have HX := Hi_ hS
 clear hS c2
 refine wpAnyH_done (by kernel_rfl) ?_ _
 try simp only [Act.put, lA, lB, lC]
 replace HS := Hi_ ((HS.out.put 2 (.string (tx l p false))).to (cs' := #[.int .i64 0, .int .i64 A0, .string (tx l p false), .string ⟨#[]⟩, .int .i64 0, .int .i64 0, .int .i64 0, .string ⟨#[]⟩, .slice none 0 0, .int .i64 0, .int .i64 0, .int .i64 0, .string ⟨#[]⟩, .slice none 0 0, .slice none 0 0, .slice none 0 0, .slice none 0 0]) rfl)
 generalize World.setCell _ _ _ = wv2 at *
 have p0 := HX.out.1.cell (i := 0) (v := .pointer (some ⟨g, 0, none⟩)) rfl
 go_wp2_with fail
 refine (HTY.out _ (p + 1) lsqB (by decide) H4.out (HS.out.bel h0 hg hQ) HS.out.1).mono ?_
 rintro r wv3 ⟨rfl, hpn, hgn⟩
 clear p0
 replace HS := Hi_ (HS.out.grown hgn hpn)
 replace HX := Hi_ (HX.out.g2 ((G2.refl _ _ _).par hgn) (by omega) (by omega))
 clear hgn hpn
 have p0 := HX.out.1.cell (i := 0) (v := .pointer (some ⟨g, 0, none⟩)) rfl
 have c0 := HS.out.cell 0 (v := .int .i64 0) rfl
 have g0 := HS.out.frozen 0
 have x0 := HX.out.2.cell (i := 0) (v := .pointer (some ⟨Q, 0, none⟩)) rfl
 go_upto_region 4 with fail
 replace HS := Hi_ ((HS.out.put 0 (.int .i64 2)).to (cs' := #[.int .i64 2, .int .i64 A0, .string (tx l p false), .string ⟨#[]⟩, .int .i64 0, .int .i64 0, .int .i64 0, .string ⟨#[]⟩, .slice none 0 0, .int .i64 0, .int .i64 0, .int .i64 0, .string ⟨#[]⟩, .slice none 0 0, .slice none 0 0, .slice none 0 0, .slice none 0 0]) rfl)
 replace HX := Hi_ (HX.out.set_ (by omega) (by omega) 0 (.int .i64 2))
 generalize World.setCell _ _ _ = wv4 at *
 clear p0 x0 c0 g0
 have hx1 := HLE.out (p + 1 + 1, false) hlt
 go_upto_region 4 with fail
 refine wp_region_held_drew (S := BoxS w.heap.size (w.heap.size + 1) g Q) (by kernel_rfl) (HX.out.keep ((Bel.rfl_ _).dr)) (fun hS => ?_)
 replace HS := Hi_ (HS.out.keep ((Bel.rfl_ _).dr))
 clear HX
 refine rt_t (i := 0) (some 14) (.pointer (some ⟨Q, 0, none⟩)) rfl hS (fun V h => rl_pc rfl (by kernel_rfl) (h.2.cell (i := 0) (v := .pointer (some ⟨Q, 0, none⟩)) rfl)) ?_
 refine rt_t (i := 1) (some 15) (.pointer (some ⟨g, 0, none⟩)) rfl hS (fun V h => rl_pp rfl (by kernel_rfl) (h.1.cell (i := 0) (v := .pointer (some ⟨g, 0, none⟩)) rfl)) ?_
 refine rt_callp (i := 2) (some 16) (by kernel_rfl) rfl rfl (by kernel_rfl) 184 #[.pointer (some ⟨g, 0, none⟩), .int .i64 0] (by kernel_rfl) (HEX.out _ (p + 1 + 1) hlt (HS.out.bel h0 hg hQ) HS.out.1) ?_
 rintro r wv5 hres
 generalize exprD l E 60 (p + 1 + 1, false) = xe at *
 obtain ⟨i, qi, fe⟩ := xe
 dsimp only at *
 cases fe with
 | true =>
  obtain ⟨hgn, rfl⟩ := PsR.bad hres rfl
  have HG := Hi_ (HS.out.grew.par hgn)
  clear hgn hres
  refine Or.inr ⟨_, rfl, ?_⟩
  exact ⟨rfl, .mkBad (by rw [HEQ.out]; dsimp only; rw [needD_bad, needD_bad]; exact exprD_bad (l := l) (E := E) 60 _) HG.out⟩
 | false =>
 obtain ⟨hgn, hpn, AI, ci, rfl, hsi, hsl⟩ := PsR.good hres rfl
 have HSZ := HS.out.size
 replace HS := Hi_ (HS.out.grown hgn hpn)
 replace hS := hS.g2 ((G2.refl _ _ _).par hgn) (by omega) (by omega)
 replace HS := Hi_ HS.out.fresh
 have HI := Hi_ (low_mono (B' := w.heap.size) teR_more HSZ hsl)
 clear hgn hpn hres hsl HSZ
 refine Or.inl ⟨_, rfl, hS, fun hS => ?_⟩
 refine rt_t (i := 3) (some 17) (.pointer (some ⟨Q, 0, none⟩)) rfl hS (fun W _ => by kernel_rfl) ?_
 refine rt_t (i := 4) (some 18) (.pointer (some ⟨Q, 4, none⟩)) rfl hS (fun W _ => by kernel_rfl) ?_
 have c4 := HS.out.cell 4 (v := .int .i64 0) rfl
 have c5 := HS.out.cell 5 (v := .int .i64 0) rfl
 have c6 := HS.out.cell 6 (v := .int .i64 0) rfl
 have c7 := HS.out.cell 7 (v := .string ⟨#[]⟩) rfl
 have c8 := HS.out.cell 8 (v := .slice none 0 0) rfl
 refine rt_st (i := 5) none (by kernel_rfl) rfl rfl (by kernel_rfl) _ (rs_te (b := Q) (f := 4) (k := i.kind) (a := i.at_) (n := i.n) (s := i.name) (v4 := .slice AI i.args.length ci) ⟨_, _, _, rfl⟩ rfl (by kernel_rfl) (by kernel_rfl) c4 c5 c6 c7 c8 (fun i => HS.out.frozen i)) (BoxS.set_ (BoxS.set_ (BoxS.set_ (BoxS.set_ (BoxS.set_ hS (by omega) (by omega) _ _) (by omega) (by omega) _ _) (by omega) (by omega) _ _) (by omega) (by omega) _ _) (by omega) (by omega) _ _) (fun hS => ?_)
 have HX := Hi_ hS
 clear hS c4 c5 c6 c7 c8
 refine wpAnyH_done (by kernel_rfl) ?_ _
 try simp only [Act.put, lA, lB, lC]
 replace HS := Hi_ ((((((HS.out.put 4 (.int .i64 i.kind)).put 5 (.int .i64 i.at_)).put 6 (.int .i64 i.n)).put 7 (.string i.name)).put 8 (.slice AI i.args.length ci)).to (cs' := #[.int .i64 2, .int .i64 A0, .string (tx l p false), .string ⟨#[]⟩, .int .i64 i.kind, .int .i64 i.at_, .int .i64 i.n, .string i.name, .slice AI i.args.length ci, .int .i64 0, .int .i64 0, .int .i64 0, .string ⟨#[]⟩, .slice none 0 0, .slice none 0 0, .slice none 0 0, .slice none 0 0]) rfl)
 generalize World.setCell _ _ _ = wv6 at *
 have hx2 := HNL.out eqB (by decide) _ (HNL.out rsqB (by decide) (qi, false) hx1)
 have p0 := HX.out.1.cell (i := 0) (v := .pointer (some ⟨g, 0, none⟩)) rfl
 have hgq : wv6.heap.size ≠ g := by have := HS.out.lt; have := HS.out.size; omega
 have hba := (Bel.rfl_ wv6).al (.cells #[.string ⟨#[93]⟩, .string ⟨#[61]⟩] 9)
 replace HS := Hi_ (HS.out.keep hba)
 replace HX := Hi_ (HX.out.keep hba)
 go_wp2_with fail
 refine (HND.out _ qi wv6.heap.size [rsqB, eqB] (HS.out.bel h0 hg hQ) HS.out.1 (by decide) (by decide) (Blk.new wv6 _ _) hgq).mono ?_
 rintro r wv7 hres
 clear p0
 clear hba hgq
 have hnd : needsD l [rsqB, eqB] (qi, false) = (needD l eqB (needD l rsqB (qi, false))) := rfl
 rw [hnd] at hres
 clear hnd
 generalize (needD l eqB (needD l rsqB (qi, false))) = st at *
 obtain ⟨qn, fs⟩ := st
 cases fs with
 | true =>
  obtain ⟨hgn, rfl⟩ := hres.bad rfl
  have HG := Hi_ (HS.out.grew.par hgn)
  clear hgn hres
  go_wp2
  exact ⟨rfl, .mkBad (by rw [HEQ.out]; exact exprD_bad (l := l) (E := E) 60 _) HG.out⟩
 | false =>
 obtain ⟨hgn, hpn, rfl⟩ := hres.good rfl
 replace HS := Hi_ (HS.out.grown hgn hpn)
 replace HX := Hi_ (HX.out.g2 ((G2.refl _ _ _).par hgn) (by omega) (by omega))
 clear hgn hpn hres
 go_upto_region 6 with fail
 refine wp_region_held_drew (S := BoxS w.heap.size (w.heap.size + 1) g Q) (by kernel_rfl) (HX.out.keep ((Bel.rfl_ _).dr)) (fun hS => ?_)
 replace HS := Hi_ (HS.out.keep ((Bel.rfl_ _).dr))
 clear HX
 refine rt_t (i := 0) (some 22) (.pointer (some ⟨Q, 0, none⟩)) rfl hS (fun V h => rl_pc rfl (by kernel_rfl) (h.2.cell (i := 0) (v := .pointer (some ⟨Q, 0, none⟩)) rfl)) ?_
 refine rt_t (i := 1) (some 23) (.pointer (some ⟨g, 0, none⟩)) rfl hS (fun V h => rl_pp rfl (by kernel_rfl) (h.1.cell (i := 0) (v := .pointer (some ⟨g, 0, none⟩)) rfl)) ?_
 refine rt_callp (i := 2) (some 24) (by kernel_rfl) rfl rfl (by kernel_rfl) 184 #[.pointer (some ⟨g, 0, none⟩), .int .i64 0] (by kernel_rfl) (HEX.out _ qn hx2 (HS.out.bel h0 hg hQ) HS.out.1) ?_
 rintro r wv8 hres
 generalize exprD l E 60 (qn, false) = xe at *
 obtain ⟨e, qe, fe⟩ := xe
 dsimp only at *
 cases fe with
 | true =>
  obtain ⟨hgn, rfl⟩ := PsR.bad hres rfl
  have HG := Hi_ (HS.out.grew.par hgn)
  clear hgn hres
  refine Or.inr ⟨_, rfl, ?_⟩
  exact ⟨rfl, .mkBad (by rw [HEQ.out]) HG.out⟩
 | false =>
 obtain ⟨hgn, hpn, AE, ce, rfl, hse, hsl⟩ := PsR.good hres rfl
 have HSZ := HS.out.size
 replace HS := Hi_ (HS.out.grown hgn hpn)
 replace hS := hS.g2 ((G2.refl _ _ _).par hgn) (by omega) (by omega)
 replace HI := Hi_ (HI.out.keep HS.out.low_)
 replace HS := Hi_ HS.out.fresh
 have HE := Hi_ (low_mono (B' := w.heap.size) teR_more HSZ hsl)
 clear hgn hpn hres hsl HSZ
 refine Or.inl ⟨_, rfl, hS, fun hS => ?_⟩
 refine rt_t (i := 3) (some 25) (.pointer (some ⟨Q, 0, none⟩)) rfl hS (fun W _ => by kernel_rfl) ?_
 refine rt_t (i := 4) (some 26) (.pointer (some ⟨Q, 9, none⟩)) rfl hS (fun W _ => by kernel_rfl) ?_
 have c9 := HS.out.cell 9 (v := .int .i64 0) rfl
 have c10 := HS.out.cell 10 (v := .int .i64 0) rfl
 have c11 := HS.out.cell 11 (v := .int .i64 0) rfl
 have c12 := HS.out.cell 12 (v := .string ⟨#[]⟩) rfl
 have c13 := HS.out.cell 13 (v := .slice none 0 0) rfl
 refine rt_st (i := 5) none (by kernel_rfl) rfl rfl (by kernel_rfl) _ (rs_te (b := Q) (f := 9) (k := e.kind) (a := e.at_) (n := e.n) (s := e.name) (v4 := .slice AE e.args.length ce) ⟨_, _, _, rfl⟩ rfl (by kernel_rfl) (by kernel_rfl) c9 c10 c11 c12 c13 (fun i => HS.out.frozen i)) (BoxS.set_ (BoxS.set_ (BoxS.set_ (BoxS.set_ (BoxS.set_ hS (by omega) (by omega) _ _) (by omega) (by omega) _ _) (by omega) (by omega) _ _) (by omega) (by omega) _ _) (by omega) (by omega) _ _) (fun hS => ?_)
 have HX := Hi_ hS
 clear hS c9 c10 c11 c12 c13
 refine wpAnyH_done (by kernel_rfl) ?_ _
 try simp only [Act.put, lA, lB, lC]
 replace HS := Hi_ ((((((HS.out.put 9 (.int .i64 e.kind)).put 10 (.int .i64 e.at_)).put 11 (.int .i64 e.n)).put 12 (.string e.name)).put 13 (.slice AE e.args.length ce)).to (cs' := #[.int .i64 2, .int .i64 A0, .string (tx l p false), .string ⟨#[]⟩, .int .i64 i.kind, .int .i64 i.at_, .int .i64 i.n, .string i.name, .slice AI i.args.length ci, .int .i64 e.kind, .int .i64 e.at_, .int .i64 e.n, .string e.name, .slice AE e.args.length ce, .slice none 0 0, .slice none 0 0, .slice none 0 0]) rfl)
 generalize World.setCell _ _ _ = wv9 at *
 go_wp2
 have hl0 := HS.out.lt
 exact bodyPost_end (v := .tuple #[]) (results_none rfl _ _ _) rfl (.mkGood HEQ.out HS.out (TCR.shut hns (Nat.zero_le _) hsi hse (HI.out.keep HS.out.low_) (HE.out.keep HS.out.low_) (Sl.nil_ _ _) (Sl.nil_ _ _) (Sl.nil_ _ _)))
set_option maxRecDepth 20000 in
set_option maxHeartbeats 4000000 in
theorem bec_off (l : List Tok) (lv : Value) (E g Q : Nat) (A0 : Int) (p : Nat) (w0 w : World) (hl : Sl tokR w0 lv l) (hn : l.length ≤ 6000) (hok : ∀ t ∈ l, TokOk t) (hm : ∀ t ∈ l, t.text.size ≤ maxLen) (hg : w0.heap.size ≤ g) (hQ : w0.heap.size ≤ Q) (hne : g ≠ Q) (_hp : p ≤ l.length) (h0 : Bel w0 w) (h : Ps w g lv p E) (hq : Blk w Q 53 #[.int .i64 0, .int .i64 A0, .string ⟨#[]⟩, .string ⟨#[]⟩, .int .i64 0, .int .i64 0, .int .i64 0, .string ⟨#[]⟩, .slice none 0 0, .int .i64 0, .int .i64 0, .int .i64 0, .string ⟨#[]⟩, .slice none 0 0, .slice none 0 0, .slice none 0 0, .slice none 0 0])
  (hi : isName (tx l p false) = true) (h4 : tx l (p + 1) false ≠ lsqB) (h5 : tx l (p + 1) false ≠ eqB) :
  Calls Tryz.prog 210 #[.pointer (some ⟨g, 0, none⟩), .pointer (some ⟨Q, 0, none⟩)] w fun r w' => BecRes w g lv l E Q (becD l E A0 (p, false)) r w' := by
 have HNM := Hi_ (kNM (E := E) (g := g) hl hn hm)
 have HTN := Hi_ (kTN (E := E) (g := g) hl hn)
 have HTY := Hi_ (kTY (E := E) (g := g) hl hn)
 have HSE := Hi_ (kSE (E := E) (g := g) hl hn)
 have HNA := Hi_ (kNA (E := E) hl hn hm hg)
 have HEX := Hi_ (kEX (E := E) hl hn hok hm hg)
 have HND := Hi_ (kND (E := E) hl hn hg)
 have HBH := Hi_ (kBH (E := E) (g := g) hl hn)
 have HEQ := Hi_ (becD_off (E := E) (A0 := A0) hi h4 h5)
 have HN := Hi_ (nameD_yes hi)
 have hns := tok_max (l := l) (p := p) (f := false) hm
 have H4 := Hi_ h4
 have H5 := Hi_ (needD_no h5)
 clear hi h4 h5
 have hgl := h.lt
 have hql := hq.lt
 have HS := Hi_ (Bec.start h hq hne)
 clear h hq
 go_enter Tryz.func210, Tryz.ntmps210
 go_upto_region 1 with fail
 have hba := ((Bel.rfl_ w).al (.cells #[.pointer (some ⟨g, 0, none⟩)] 86)).al (.cells #[.pointer (some ⟨Q, 0, none⟩)] 228)
 have HX := Hi_ (show BoxS w.heap.size (w.heap.size + 1) g Q _ from ⟨(Blk.new w 86 #[.pointer (some ⟨g, 0, none⟩)]).keep ((Bel.rfl_ _).al (.cells #[.pointer (some ⟨Q, 0, none⟩)] 228)), by
  have := Blk.new (w.alloc (.cells #[.pointer (some ⟨g, 0, none⟩)] 86)) 228 #[.pointer (some ⟨Q, 0, none⟩)]
  rwa [World.size_alloc] at this⟩)
 replace HS := Hi_ (HS.out.keep hba).fresh
 clear hba
 generalize (w.alloc (.cells #[.pointer (some ⟨g, 0, none⟩)] 86)).alloc (.cells #[.pointer (some ⟨Q, 0, none⟩)] 228) = W0 at *
 go_upto_region 1 with fail
 refine wp_region_held_drew (S := BoxS w.heap.size (w.heap.size + 1) g Q) (by kernel_rfl) (HX.out.keep ((Bel.rfl_ _).dr)) (fun hS => ?_)
 replace HS := Hi_ (HS.out.keep ((Bel.rfl_ _).dr))
 clear HX
 refine rt_t (i := 0) (some 4) (.pointer (some ⟨Q, 0, none⟩)) rfl hS (fun V h => rl_pc rfl (by kernel_rfl) (h.2.cell (i := 0) (v := .pointer (some ⟨Q, 0, none⟩)) rfl)) ?_
 refine rt_t (i := 1) (some 5) (.pointer (some ⟨g, 0, none⟩)) rfl hS (fun V h => rl_pp rfl (by kernel_rfl) (h.1.cell (i := 0) (v := .pointer (some ⟨g, 0, none⟩)) rfl)) ?_
 refine rt_callp (i := 2) (some 6) (by kernel_rfl) rfl rfl (by kernel_rfl) 181 #[.pointer (some ⟨g, 0, none⟩)] (by kernel_rfl) (HNA.out _ p (HS.out.bel h0 hg hQ) HS.out.1) ?_
 rintro r wv1 hres
 rw [HN.out] at hres
 dsimp only at hres
 obtain ⟨hgn, hpn, rfl⟩ := hres.good rfl
 replace HS := Hi_ (HS.out.grown hgn hpn)
 replace hS := hS.g2 ((G2.refl _ _ _).par hgn) (by omega) (by omega)
 clear hgn hpn hres
 refine Or.inl ⟨_, rfl, hS, fun hS => ?_⟩
 refine rt_t (i := 3) (some 7) (.pointer (some ⟨Q, 0, none⟩)) rfl hS (fun W _ => by kernel_rfl) ?_
 refine rt_t (i := 4) (some 8) (.pointer (some ⟨Q, 2, none⟩)) rfl hS (fun W _ => by kernel_rfl) ?_
 have c2 := HS.out.cell 2 (v := .string ⟨#[]⟩) rfl
 refine rt_st (i := 5) none (by kernel_rfl) rfl rfl (by kernel_rfl) _ (rs_str (b := Q) (f := 2) (s := tx l p false) rfl (by kernel_rfl) (by kernel_rfl) c2 (HS.out.frozen 2)) (BoxS.set_ hS (by omega) (by omega) _ _) (fun hS => ?_)
 have HX := Hi_ hS
 clear hS c2
 refine wpAnyH_done (by kernel_rfl) ?_ _
 try simp only [Act.put, lA, lB, lC]
 replace HS := Hi_ ((HS.out.put 2 (.string (tx l p false))).to (cs' := #[.int .i64 0, .int .i64 A0, .string (tx l p false), .string ⟨#[]⟩, .int .i64 0, .int .i64 0, .int .i64 0, .string ⟨#[]⟩, .slice none 0 0, .int .i64 0, .int .i64 0, .int .i64 0, .string ⟨#[]⟩, .slice none 0 0, .slice none 0 0, .slice none 0 0, .slice none 0 0]) rfl)
 generalize World.setCell _ _ _ = wv2 at *
 have p0 := HX.out.1.cell (i := 0) (v := .pointer (some ⟨g, 0, none⟩)) rfl
 go_wp2_with fail
 refine (HTN.out _ (p + 1) lsqB (by decide) H4.out (HS.out.bel h0 hg hQ) HS.out.1).mono ?_
 rintro r wv3 ⟨rfl, hb⟩
 clear p0
 replace HS := Hi_ (HS.out.keep hb)
 replace HX := Hi_ (HX.out.keep hb)
 clear hb
 have p0 := HX.out.1.cell (i := 0) (v := .pointer (some ⟨g, 0, none⟩)) rfl
 have hgq : wv3.heap.size ≠ g := by have := HS.out.lt; have := HS.out.size; omega
 have hba := (Bel.rfl_ wv3).al (.cells #[.string ⟨#[61]⟩] 9)
 replace HS := Hi_ (HS.out.keep hba)
 replace HX := Hi_ (HX.out.keep hba)
 go_wp2_with fail
 refine (HND.out _ (p + 1) wv3.heap.size [eqB] (HS.out.bel h0 hg hQ) HS.out.1 (by decide) (by decide) (Blk.new wv3 _ _) hgq).mono ?_
 rintro r wv4 hres
 clear p0
 rw [show needsD l [eqB] (p + 1, false) = (p + 1, true) from H5.out] at hres
 obtain ⟨hgn, rfl⟩ := hres.bad rfl
 have HG := Hi_ (HS.out.grew.par hgn)
 clear hgn hres hba
 go_wp2
 exact ⟨rfl, .mkBad (HEQ.out) HG.out⟩
set_option maxRecDepth 20000 in
set_option maxHeartbeats 4000000 in
theorem bec_read (l : List Tok) (lv : Value) (E g Q : Nat) (A0 : Int) (p : Nat) (w0 w : World) (hl : Sl tokR w0 lv l) (hn : l.length ≤ 6000) (hok : ∀ t ∈ l, TokOk t) (hm : ∀ t ∈ l, t.text.size ≤ maxLen) (hg : w0.heap.size ≤ g) (hQ : w0.heap.size ≤ Q) (hne : g ≠ Q) (_hp : p ≤ l.length) (h0 : Bel w0 w) (h : Ps w g lv p E) (hq : Blk w Q 53 #[.int .i64 0, .int .i64 A0, .string ⟨#[]⟩, .string ⟨#[]⟩, .int .i64 0, .int .i64 0, .int .i64 0, .string ⟨#[]⟩, .slice none 0 0, .int .i64 0, .int .i64 0, .int .i64 0, .string ⟨#[]⟩, .slice none 0 0, .slice none 0 0, .slice none 0 0, .slice none 0 0])
  (hi : isName (tx l p false) = true) (h4 : tx l (p + 1) false ≠ lsqB) (h5 : tx l (p + 1) false = eqB) (h6 : tx l (p + 1 + 1) false = readB) :
  Calls Tryz.prog 210 #[.pointer (some ⟨g, 0, none⟩), .pointer (some ⟨Q, 0, none⟩)] w fun r w' => BecRes w g lv l E Q (becD l E A0 (p, false)) r w' := by
 have HNM := Hi_ (kNM (E := E) (g := g) hl hn hm)
 have HTN := Hi_ (kTN (E := E) (g := g) hl hn)
 have HTY := Hi_ (kTY (E := E) (g := g) hl hn)
 have HSE := Hi_ (kSE (E := E) (g := g) hl hn)
 have HNA := Hi_ (kNA (E := E) hl hn hm hg)
 have HEX := Hi_ (kEX (E := E) hl hn hok hm hg)
 have HND := Hi_ (kND (E := E) hl hn hg)
 have HBH := Hi_ (kBH (E := E) (g := g) hl hn)
 have HEQ := Hi_ (becD_read (E := E) (A0 := A0) hi h4 h5 h6)
 have HN := Hi_ (nameD_yes hi)
 have hns := tok_max (l := l) (p := p) (f := false) hm
 have H4 := Hi_ h4
 have H5 := Hi_ (needD_yes h5)
 have hlt := tx_lt (l := l) (p := p + 1) (f := false) (by rw [h5]; decide)
 have H6 := Hi_ h6
 clear hi h4 h5 h6
 have hgl := h.lt
 have hql := hq.lt
 have HS := Hi_ (Bec.start h hq hne)
 clear h hq
 go_enter Tryz.func210, Tryz.ntmps210
 go_upto_region 1 with fail
 have hba := ((Bel.rfl_ w).al (.cells #[.pointer (some ⟨g, 0, none⟩)] 86)).al (.cells #[.pointer (some ⟨Q, 0, none⟩)] 228)
 have HX := Hi_ (show BoxS w.heap.size (w.heap.size + 1) g Q _ from ⟨(Blk.new w 86 #[.pointer (some ⟨g, 0, none⟩)]).keep ((Bel.rfl_ _).al (.cells #[.pointer (some ⟨Q, 0, none⟩)] 228)), by
  have := Blk.new (w.alloc (.cells #[.pointer (some ⟨g, 0, none⟩)] 86)) 228 #[.pointer (some ⟨Q, 0, none⟩)]
  rwa [World.size_alloc] at this⟩)
 replace HS := Hi_ (HS.out.keep hba).fresh
 clear hba
 generalize (w.alloc (.cells #[.pointer (some ⟨g, 0, none⟩)] 86)).alloc (.cells #[.pointer (some ⟨Q, 0, none⟩)] 228) = W0 at *
 go_upto_region 1 with fail
 refine wp_region_held_drew (S := BoxS w.heap.size (w.heap.size + 1) g Q) (by kernel_rfl) (HX.out.keep ((Bel.rfl_ _).dr)) (fun hS => ?_)
 replace HS := Hi_ (HS.out.keep ((Bel.rfl_ _).dr))
 clear HX
 refine rt_t (i := 0) (some 4) (.pointer (some ⟨Q, 0, none⟩)) rfl hS (fun V h => rl_pc rfl (by kernel_rfl) (h.2.cell (i := 0) (v := .pointer (some ⟨Q, 0, none⟩)) rfl)) ?_
 refine rt_t (i := 1) (some 5) (.pointer (some ⟨g, 0, none⟩)) rfl hS (fun V h => rl_pp rfl (by kernel_rfl) (h.1.cell (i := 0) (v := .pointer (some ⟨g, 0, none⟩)) rfl)) ?_
 refine rt_callp (i := 2) (some 6) (by kernel_rfl) rfl rfl (by kernel_rfl) 181 #[.pointer (some ⟨g, 0, none⟩)] (by kernel_rfl) (HNA.out _ p (HS.out.bel h0 hg hQ) HS.out.1) ?_
 rintro r wv1 hres
 rw [HN.out] at hres
 dsimp only at hres
 obtain ⟨hgn, hpn, rfl⟩ := hres.good rfl
 replace HS := Hi_ (HS.out.grown hgn hpn)
 replace hS := hS.g2 ((G2.refl _ _ _).par hgn) (by omega) (by omega)
 clear hgn hpn hres
 refine Or.inl ⟨_, rfl, hS, fun hS => ?_⟩
 refine rt_t (i := 3) (some 7) (.pointer (some ⟨Q, 0, none⟩)) rfl hS (fun W _ => by kernel_rfl) ?_
 refine rt_t (i := 4) (some 8) (.pointer (some ⟨Q, 2, none⟩)) rfl hS (fun W _ => by kernel_rfl) ?_
 have c2 := HS.out.cell 2 (v := .string ⟨#[]⟩) rfl
 refine rt_st (i := 5) none (by kernel_rfl) rfl rfl (by kernel_rfl) _ (rs_str (b := Q) (f := 2) (s := tx l p false) rfl (by kernel_rfl) (by kernel_rfl) c2 (HS.out.frozen 2)) (BoxS.set_ hS (by omega) (by omega) _ _) (fun hS => ?_)
 have HX := Hi_ hS
 clear hS c2
 refine wpAnyH_done (by kernel_rfl) ?_ _
 try simp only [Act.put, lA, lB, lC]
 replace HS := Hi_ ((HS.out.put 2 (.string (tx l p false))).to (cs' := #[.int .i64 0, .int .i64 A0, .string (tx l p false), .string ⟨#[]⟩, .int .i64 0, .int .i64 0, .int .i64 0, .string ⟨#[]⟩, .slice none 0 0, .int .i64 0, .int .i64 0, .int .i64 0, .string ⟨#[]⟩, .slice none 0 0, .slice none 0 0, .slice none 0 0, .slice none 0 0]) rfl)
 generalize World.setCell _ _ _ = wv2 at *
 have p0 := HX.out.1.cell (i := 0) (v := .pointer (some ⟨g, 0, none⟩)) rfl
 go_wp2_with fail
 refine (HTN.out _ (p + 1) lsqB (by decide) H4.out (HS.out.bel h0 hg hQ) HS.out.1).mono ?_
 rintro r wv3 ⟨rfl, hb⟩
 clear p0
 replace HS := Hi_ (HS.out.keep hb)
 replace HX := Hi_ (HX.out.keep hb)
 clear hb
 have p0 := HX.out.1.cell (i := 0) (v := .pointer (some ⟨g, 0, none⟩)) rfl
 have hgq : wv3.heap.size ≠ g := by have := HS.out.lt; have := HS.out.size; omega
 have hba := (Bel.rfl_ wv3).al (.cells #[.string ⟨#[61]⟩] 9)
 replace HS := Hi_ (HS.out.keep hba)
 replace HX := Hi_ (HX.out.keep hba)
 go_wp2_with fail
 refine (HND.out _ (p + 1) wv3.heap.size [eqB] (HS.out.bel h0 hg hQ) HS.out.1 (by decide) (by decide) (Blk.new wv3 _ _) hgq).mono ?_
 rintro r wv4 hres
 clear p0
 clear hba hgq
 rw [show needsD l [eqB] ((p + 1), false) = (p + 1 + 1, false) from H5.out] at hres
 obtain ⟨hgn, hpn, rfl⟩ := hres.good rfl
 replace HS := Hi_ (HS.out.grown hgn hpn)
 replace HX := Hi_ (HX.out.g2 ((G2.refl _ _ _).par hgn) (by omega) (by omega))
 clear hgn hpn hres
 have p0 := HX.out.1.cell (i := 0) (v := .pointer (some ⟨g, 0, none⟩)) rfl
 go_wp2_with fail
 refine (HTY.out _ (p + 1 + 1) readB (by decide) H6.out (HS.out.bel h0 hg hQ) HS.out.1).mono ?_
 rintro r wv5 ⟨rfl, hpn, hgn⟩
 clear p0
 replace HS := Hi_ (HS.out.grown hgn hpn)
 replace HX := Hi_ (HX.out.g2 ((G2.refl _ _ _).par hgn) (by omega) (by omega))
 clear hgn hpn
 have p0 := HX.out.1.cell (i := 0) (v := .pointer (some ⟨g, 0, none⟩)) rfl
 have c0 := HS.out.cell 0 (v := .int .i64 0) rfl
 have g0 := HS.out.frozen 0
 have x0 := HX.out.2.cell (i := 0) (v := .pointer (some ⟨Q, 0, none⟩)) rfl
 go_wp2
 replace HS := Hi_ ((HS.out.put 0 (.int .i64 4)).to (cs' := #[.int .i64 4, .int .i64 A0, .string (tx l p false), .string ⟨#[]⟩, .int .i64 0, .int .i64 0, .int .i64 0, .string ⟨#[]⟩, .slice none 0 0, .int .i64 0, .int .i64 0, .int .i64 0, .string ⟨#[]⟩, .slice none 0 0, .slice none 0 0, .slice none 0 0, .slice none 0 0]) rfl)
 replace HX := Hi_ (HX.out.set_ (by omega) (by omega) 0 (.int .i64 4))
 generalize World.setCell _ _ _ = wv6 at *
 clear p0 x0 c0 g0
 have hl0 := HS.out.lt
 exact bodyPost_end (v := .tuple #[]) (results_none rfl _ _ _) rfl (.mkGood HEQ.out HS.out (TCR.shut hns (Nat.zero_le _) (Nat.zero_le _) (Nat.zero_le _) (Sl.nil_ _ _) (Sl.nil_ _ _) (Sl.nil_ _ _) (Sl.nil_ _ _) (Sl.nil_ _ _)))
set_option maxRecDepth 20000 in
set_option maxHeartbeats 4000000 in
theorem bec_set0 (l : List Tok) (lv : Value) (E g Q : Nat) (A0 : Int) (p : Nat) (w0 w : World) (hl : Sl tokR w0 lv l) (hn : l.length ≤ 6000) (hok : ∀ t ∈ l, TokOk t) (hm : ∀ t ∈ l, t.text.size ≤ maxLen) (hg : w0.heap.size ≤ g) (hQ : w0.heap.size ≤ Q) (hne : g ≠ Q) (_hp : p ≤ l.length) (h0 : Bel w0 w) (h : Ps w g lv p E) (hq : Blk w Q 53 #[.int .i64 0, .int .i64 A0, .string ⟨#[]⟩, .string ⟨#[]⟩, .int .i64 0, .int .i64 0, .int .i64 0, .string ⟨#[]⟩, .slice none 0 0, .int .i64 0, .int .i64 0, .int .i64 0, .string ⟨#[]⟩, .slice none 0 0, .slice none 0 0, .slice none 0 0, .slice none 0 0])
  (hi : isName (tx l p false) = true) (h4 : tx l (p + 1) false ≠ lsqB) (h5 : tx l (p + 1) false = eqB) (h6 : tx l (p + 1 + 1) false ≠ readB) (h7 : isName (tx l (p + 1 + 1) false) = false) :
  Calls Tryz.prog 210 #[.pointer (some ⟨g, 0, none⟩), .pointer (some ⟨Q, 0, none⟩)] w fun r w' => BecRes w g lv l E Q (becD l E A0 (p, false)) r w' := by
 have HNM := Hi_ (kNM (E := E) (g := g) hl hn hm)
 have HTN := Hi_ (kTN (E := E) (g := g) hl hn)
 have HTY := Hi_ (kTY (E := E) (g := g) hl hn)
 have HSE := Hi_ (kSE (E := E) (g := g) hl hn)
 have HNA := Hi_ (kNA (E := E) hl hn hm hg)
 have HEX := Hi_ (kEX (E := E) hl hn hok hm hg)
 have HND := Hi_ (kND (E := E) hl hn hg)
 have HBH := Hi_ (kBH (E := E) (g := g) hl hn)
 have HEQ := Hi_ (becD_set (E := E) (A0 := A0) hi h4 h5 h6 (by rw [h7]; rintro ⟨h, -⟩; cases h))
 have HN := Hi_ (nameD_yes hi)
 have hns := tok_max (l := l) (p := p) (f := false) hm
 have H4 := Hi_ h4
 have H5 := Hi_ (needD_yes h5)
 have hlt := tx_lt (l := l) (p := p + 1) (f := false) (by rw [h5]; decide)
 have H6 := Hi_ h6
 have H7 := Hi_ h7
 clear hi h4 h5 h6 h7
 have hgl := h.lt
 have hql := hq.lt
 have HS := Hi_ (Bec.start h hq hne)
 clear h hq
 go_enter Tryz.func210, Tryz.ntmps210
 go_upto_region 1 with fail
 have hba := ((Bel.rfl_ w).al (.cells #[.pointer (some ⟨g, 0, none⟩)] 86)).al (.cells #[.pointer (some ⟨Q, 0, none⟩)] 228)
 have HX := Hi_ (show BoxS w.heap.size (w.heap.size + 1) g Q _ from ⟨(Blk.new w 86 #[.pointer (some ⟨g, 0, none⟩)]).keep ((Bel.rfl_ _).al (.cells #[.pointer (some ⟨Q, 0, none⟩)] 228)), by
  have := Blk.new (w.alloc (.cells #[.pointer (some ⟨g, 0, none⟩)] 86)) 228 #[.pointer (some ⟨Q, 0, none⟩)]
  rwa [World.size_alloc] at this⟩)
 replace HS := Hi_ (HS.out.keep hba).fresh
 clear hba
 generalize (w.alloc (.cells #[.pointer (some ⟨g, 0, none⟩)] 86)).alloc (.cells #[.pointer (some ⟨Q, 0, none⟩)] 228) = W0 at *
 go_upto_region 1 with fail
 refine wp_region_held_drew (S := BoxS w.heap.size (w.heap.size + 1) g Q) (by kernel_rfl) (HX.out.keep ((Bel.rfl_ _).dr)) (fun hS => ?_)
 replace HS := Hi_ (HS.out.keep ((Bel.rfl_ _).dr))
 clear HX
 refine rt_t (i := 0) (some 4) (.pointer (some ⟨Q, 0, none⟩)) rfl hS (fun V h => rl_pc rfl (by kernel_rfl) (h.2.cell (i := 0) (v := .pointer (some ⟨Q, 0, none⟩)) rfl)) ?_
 refine rt_t (i := 1) (some 5) (.pointer (some ⟨g, 0, none⟩)) rfl hS (fun V h => rl_pp rfl (by kernel_rfl) (h.1.cell (i := 0) (v := .pointer (some ⟨g, 0, none⟩)) rfl)) ?_
 refine rt_callp (i := 2) (some 6) (by kernel_rfl) rfl rfl (by kernel_rfl) 181 #[.pointer (some ⟨g, 0, none⟩)] (by kernel_rfl) (HNA.out _ p (HS.out.bel h0 hg hQ) HS.out.1) ?_
 rintro r wv1 hres
 rw [HN.out] at hres
 dsimp only at hres
 obtain ⟨hgn, hpn, rfl⟩ := hres.good rfl
 replace HS := Hi_ (HS.out.grown hgn hpn)
 replace hS := hS.g2 ((G2.refl _ _ _).par hgn) (by omega) (by omega)
 clear hgn hpn hres
 refine Or.inl ⟨_, rfl, hS, fun hS => ?_⟩
 refine rt_t (i := 3) (some 7) (.pointer (some ⟨Q, 0, none⟩)) rfl hS (fun W _ => by kernel_rfl) ?_
 refine rt_t (i := 4) (some 8) (.pointer (some ⟨Q, 2, none⟩)) rfl hS (fun W _ => by kernel_rfl) ?_
 have c2 := HS.out.cell 2 (v := .string ⟨#[]⟩) rfl
 refine rt_st (i := 5) none (by kernel_rfl) rfl rfl (by kernel_rfl) _ (rs_str (b := Q) (f := 2) (s := tx l p false) rfl (by kernel_rfl) (by kernel_rfl) c2 (HS.out.frozen 2)) (BoxS.set_ hS (by omega) (by omega) _ _) (fun hS => ?_)
 have HX := Hi_ hS
 clear hS c2
 refine wpAnyH_done (by kernel_rfl) ?_ _
 try simp only [Act.put, lA, lB, lC]
 replace HS := Hi_ ((HS.out.put 2 (.string (tx l p false))).to (cs' := #[.int .i64 0, .int .i64 A0, .string (tx l p false), .string ⟨#[]⟩, .int .i64 0, .int .i64 0, .int .i64 0, .string ⟨#[]⟩, .slice none 0 0, .int .i64 0, .int .i64 0, .int .i64 0, .string ⟨#[]⟩, .slice none 0 0, .slice none 0 0, .slice none 0 0, .slice none 0 0]) rfl)
 generalize World.setCell _ _ _ = wv2 at *
 have p0 := HX.out.1.cell (i := 0) (v := .pointer (some ⟨g, 0, none⟩)) rfl
 go_wp2_with fail
 refine (HTN.out _ (p + 1) lsqB (by decide) H4.out (HS.out.bel h0 hg hQ) HS.out.1).mono ?_
 rintro r wv3 ⟨rfl, hb⟩
 clear p0
 replace HS := Hi_ (HS.out.keep hb)
 replace HX := Hi_ (HX.out.keep hb)
 clear hb
 have p0 := HX.out.1.cell (i := 0) (v := .pointer (some ⟨g, 0, none⟩)) rfl
 have hgq : wv3.heap.size ≠ g := by have := HS.out.lt; have := HS.out.size; omega
 have hba := (Bel.rfl_ wv3).al (.cells #[.string ⟨#[61]⟩] 9)
 replace HS := Hi_ (HS.out.keep hba)
 replace HX := Hi_ (HX.out.keep hba)
 go_wp2_with fail
 refine (HND.out _ (p + 1) wv3.heap.size [eqB] (HS.out.bel h0 hg hQ) HS.out.1 (by decide) (by decide) (Blk.new wv3 _ _) hgq).mono ?_
 rintro r wv4 hres
 clear p0
 clear hba hgq
 rw [show needsD l [eqB] ((p + 1), false) = (p + 1 + 1, false) from H5.out] at hres
 obtain ⟨hgn, hpn, rfl⟩ := hres.good rfl
 replace HS := Hi_ (HS.out.grown hgn hpn)
 replace HX := Hi_ (HX.out.g2 ((G2.refl _ _ _).par hgn) (by omega) (by omega))
 clear hgn hpn hres
 have p0 := HX.out.1.cell (i := 0) (v := .pointer (some ⟨g, 0, none⟩)) rfl
 go_wp2_with fail
 refine (HTN.out _ (p + 1 + 1) readB (by decide) H6.out (HS.out.bel h0 hg hQ) HS.out.1).mono ?_
 rintro r wv5 ⟨rfl, hb⟩
 clear p0
 replace HS := Hi_ (HS.out.keep hb)
 replace HX := Hi_ (HX.out.keep hb)
 clear hb
 have p0 := HX.out.1.cell (i := 0) (v := .pointer (some ⟨g, 0, none⟩)) rfl
 go_wp2_with fail
 refine (HNM.out _ (p + 1 + 1) false H7.out (HS.out.bel h0 hg hQ) HS.out.1).mono ?_
 rintro r wv6 ⟨rfl, hb⟩
 clear p0
 replace HS := Hi_ (HS.out.keep hb)
 replace HX := Hi_ (HX.out.keep hb)
 clear hb
 have p0 := HX.out.1.cell (i := 0) (v := .pointer (some ⟨g, 0, none⟩)) rfl
 have c0 := HS.out.cell 0 (v := .int .i64 0) rfl
 have g0 := HS.out.frozen 0
 have x0 := HX.out.2.cell (i := 0) (v := .pointer (some ⟨Q, 0, none⟩)) rfl
 go_upto_region 9 with fail
 replace HS := Hi_ ((HS.out.put 0 (.int .i64 1)).to (cs' := #[.int .i64 1, .int .i64 A0, .string (tx l p false), .string ⟨#[]⟩, .int .i64 0, .int .i64 0, .int .i64 0, .string ⟨#[]⟩, .slice none 0 0, .int .i64 0, .int .i64 0, .int .i64 0, .string ⟨#[]⟩, .slice none 0 0, .slice none 0 0, .slice none 0 0, .slice none 0 0]) rfl)
 replace HX := Hi_ (HX.out.set_ (by omega) (by omega) 0 (.int .i64 1))
 generalize World.setCell _ _ _ = wv7 at *
 clear p0 x0 c0 g0
 go_upto_region 9 with fail
 refine wp_region_held_drew (S := BoxS w.heap.size (w.heap.size + 1) g Q) (by kernel_rfl) (HX.out.keep ((Bel.rfl_ _).dr)) (fun hS => ?_)
 replace HS := Hi_ (HS.out.keep ((Bel.rfl_ _).dr))
 clear HX
 refine rt_t (i := 0) (some 33) (.pointer (some ⟨Q, 0, none⟩)) rfl hS (fun V h => rl_pc rfl (by kernel_rfl) (h.2.cell (i := 0) (v := .pointer (some ⟨Q, 0, none⟩)) rfl)) ?_
 refine rt_t (i := 1) (some 34) (.pointer (some ⟨g, 0, none⟩)) rfl hS (fun V h => rl_pp rfl (by kernel_rfl) (h.1.cell (i := 0) (v := .pointer (some ⟨g, 0, none⟩)) rfl)) ?_
 refine rt_callp (i := 2) (some 35) (by kernel_rfl) rfl rfl (by kernel_rfl) 184 #[.pointer (some ⟨g, 0, none⟩), .int .i64 0] (by kernel_rfl) (HEX.out _ (p + 1 + 1) hlt (HS.out.bel h0 hg hQ) HS.out.1) ?_
 rintro r wv8 hres
 generalize exprD l E 60 (p + 1 + 1, false) = xe at *
 obtain ⟨e, qe, fe⟩ := xe
 dsimp only at *
 cases fe with
 | true =>
  obtain ⟨hgn, rfl⟩ := PsR.bad hres rfl
  have HG := Hi_ (HS.out.grew.par hgn)
  clear hgn hres
  refine Or.inr ⟨_, rfl, ?_⟩
  exact ⟨rfl, .mkBad (by rw [HEQ.out]) HG.out⟩
 | false =>
 obtain ⟨hgn, hpn, AE, ce, rfl, hse, hsl⟩ := PsR.good hres rfl
 have HSZ := HS.out.size
 replace HS := Hi_ (HS.out.grown hgn hpn)
 replace hS := hS.g2 ((G2.refl _ _ _).par hgn) (by omega) (by omega)
 replace HS := Hi_ HS.out.fresh
 have HE := Hi_ (low_mono (B' := w.heap.size) teR_more HSZ hsl)
 clear hgn hpn hres hsl HSZ
 refine Or.inl ⟨_, rfl, hS, fun hS => ?_⟩
 refine rt_t (i := 3) (some 36) (.pointer (some ⟨Q, 0, none⟩)) rfl hS (fun W _ => by kernel_rfl) ?_
 refine rt_t (i := 4) (some 37) (.pointer (some ⟨Q, 9, none⟩)) rfl hS (fun W _ => by kernel_rfl) ?_
 have c9 := HS.out.cell 9 (v := .int .i64 0) rfl
 have c10 := HS.out.cell 10 (v := .int .i64 0) rfl
 have c11 := HS.out.cell 11 (v := .int .i64 0) rfl
 have c12 := HS.out.cell 12 (v := .string ⟨#[]⟩) rfl
 have c13 := HS.out.cell 13 (v := .slice none 0 0) rfl
 refine rt_st (i := 5) none (by kernel_rfl) rfl rfl (by kernel_rfl) _ (rs_te (b := Q) (f := 9) (k := e.kind) (a := e.at_) (n := e.n) (s := e.name) (v4 := .slice AE e.args.length ce) ⟨_, _, _, rfl⟩ rfl (by kernel_rfl) (by kernel_rfl) c9 c10 c11 c12 c13 (fun i => HS.out.frozen i)) (BoxS.set_ (BoxS.set_ (BoxS.set_ (BoxS.set_ (BoxS.set_ hS (by omega) (by omega) _ _) (by omega) (by omega) _ _) (by omega) (by omega) _ _) (by omega) (by omega) _ _) (by omega) (by omega) _ _) (fun hS => ?_)
 have HX := Hi_ hS
 clear hS c9 c10 c11 c12 c13
 refine wpAnyH_done (by kernel_rfl) ?_ _
 try simp only [Act.put, lA, lB, lC]
 replace HS := Hi_ ((((((HS.out.put 9 (.int .i64 e.kind)).put 10 (.int .i64 e.at_)).put 11 (.int .i64 e.n)).put 12 (.string e.name)).put 13 (.slice AE e.args.length ce)).to (cs' := #[.int .i64 1, .int .i64 A0, .string (tx l p false), .string ⟨#[]⟩, .int .i64 0, .int .i64 0, .int .i64 0, .string ⟨#[]⟩, .slice none 0 0, .int .i64 e.kind, .int .i64 e.at_, .int .i64 e.n, .string e.name, .slice AE e.args.length ce, .slice none 0 0, .slice none 0 0, .slice none 0 0]) rfl)
 generalize World.setCell _ _ _ = wv9 at *
 go_wp2
 have hl0 := HS.out.lt
 exact bodyPost_end (v := .tuple #[]) (results_none rfl _ _ _) rfl (.mkGood HEQ.out HS.out (TCR.shut hns (Nat.zero_le _) (Nat.zero_le _) hse (Sl.nil_ _ _) (HE.out.keep HS.out.low_) (Sl.nil_ _ _) (Sl.nil_ _ _) (Sl.nil_ _ _)))
set_option maxRecDepth 20000 in
set_option maxHeartbeats 4000000 in
theorem bec_set1 (l : List Tok) (lv : Value) (E g Q : Nat) (A0 : Int) (p : Nat) (w0 w : World) (hl : Sl tokR w0 lv l) (hn : l.length ≤ 6000) (hok : ∀ t ∈ l, TokOk t) (hm : ∀ t ∈ l, t.text.size ≤ maxLen) (hg : w0.heap.size ≤ g) (hQ : w0.heap.size ≤ Q) (hne : g ≠ Q) (_hp : p ≤ l.length) (h0 : Bel w0 w) (h : Ps w g lv p E) (hq : Blk w Q 53 #[.int .i64 0, .int .i64 A0, .string ⟨#[]⟩, .string ⟨#[]⟩, .int .i64 0, .int .i64 0, .int .i64 0, .string ⟨#[]⟩, .slice none 0 0, .int .i64 0, .int .i64 0, .int .i64 0, .string ⟨#[]⟩, .slice none 0 0, .slice none 0 0, .slice none 0 0, .slice none 0 0])
  (hi : isName (tx l p false) = true) (h4 : tx l (p + 1) false ≠ lsqB) (h5 : tx l (p + 1) false = eqB) (h6 : tx l (p + 1 + 1) false ≠ readB) (h7 : isName (tx l (p + 1 + 1) false) = true) (h8 : tx l (p + 1 + 1 + 1) false ≠ lparB) :
  Calls Tryz.prog 210 #[.pointer (some ⟨g, 0, none⟩), .pointer (some ⟨Q, 0, none⟩)] w fun r w' => BecRes w g lv l E Q (becD l E A0 (p, false)) r w' := by
 have HNM := Hi_ (kNM (E := E) (g := g) hl hn hm)
 have HTN := Hi_ (kTN (E := E) (g := g) hl hn)
 have HTY := Hi_ (kTY (E := E) (g := g) hl hn)
 have HSE := Hi_ (kSE (E := E) (g := g) hl hn)
 have HNA := Hi_ (kNA (E := E) hl hn hm hg)
 have HEX := Hi_ (kEX (E := E) hl hn hok hm hg)
 have HND := Hi_ (kND (E := E) hl hn hg)
 have HBH := Hi_ (kBH (E := E) (g := g) hl hn)
 have HEQ := Hi_ (becD_set (E := E) (A0 := A0) hi h4 h5 h6 (fun h => h8 h.2))
 have HN := Hi_ (nameD_yes hi)
 have hns := tok_max (l := l) (p := p) (f := false) hm
 have H4 := Hi_ h4
 have H5 := Hi_ (needD_yes h5)
 have hlt := tx_lt (l := l) (p := p + 1) (f := false) (by rw [h5]; decide)
 have H6 := Hi_ h6
 have H7 := Hi_ h7
 have e40 : ((tx l (p + 1 + 1 + 1) false).toList == [40]) = false := lit_false h8
 clear hi h4 h5 h6 h7 h8
 have hgl := h.lt
 have hql := hq.lt
 have HS := Hi_ (Bec.start h hq hne)
 clear h hq
 go_enter Tryz.func210, Tryz.ntmps210
 go_upto_region 1 with fail
 have hba := ((Bel.rfl_ w).al (.cells #[.pointer (some ⟨g, 0, none⟩)] 86)).al (.cells #[.pointer (some ⟨Q, 0, none⟩)] 228)
 have HX := Hi_ (show BoxS w.heap.size (w.heap.size + 1) g Q _ from ⟨(Blk.new w 86 #[.pointer (some ⟨g, 0, none⟩)]).keep ((Bel.rfl_ _).al (.cells #[.pointer (some ⟨Q, 0, none⟩)] 228)), by
  have := Blk.new (w.alloc (.cells #[.pointer (some ⟨g, 0, none⟩)] 86)) 228 #[.pointer (some ⟨Q, 0, none⟩)]
  rwa [World.size_alloc] at this⟩)
 replace HS := Hi_ (HS.out.keep hba).fresh
 clear hba
 generalize (w.alloc (.cells #[.pointer (some ⟨g, 0, none⟩)] 86)).alloc (.cells #[.pointer (some ⟨Q, 0, none⟩)] 228) = W0 at *
 go_upto_region 1 with fail
 refine wp_region_held_drew (S := BoxS w.heap.size (w.heap.size + 1) g Q) (by kernel_rfl) (HX.out.keep ((Bel.rfl_ _).dr)) (fun hS => ?_)
 replace HS := Hi_ (HS.out.keep ((Bel.rfl_ _).dr))
 clear HX
 refine rt_t (i := 0) (some 4) (.pointer (some ⟨Q, 0, none⟩)) rfl hS (fun V h => rl_pc rfl (by kernel_rfl) (h.2.cell (i := 0) (v := .pointer (some ⟨Q, 0, none⟩)) rfl)) ?_
 refine rt_t (i := 1) (some 5) (.pointer (some ⟨g, 0, none⟩)) rfl hS (fun V h => rl_pp rfl (by kernel_rfl) (h.1.cell (i := 0) (v := .pointer (some ⟨g, 0, none⟩)) rfl)) ?_
 refine rt_callp (i := 2) (some 6) (by kernel_rfl) rfl rfl (by kernel_rfl) 181 #[.pointer (some ⟨g, 0, none⟩)] (by kernel_rfl) (HNA.out _ p (HS.out.bel h0 hg hQ) HS.out.1) ?_
 rintro r wv1 hres
 rw [HN.out] at hres
 dsimp only at hres
 obtain ⟨hgn, hpn, rfl⟩ := hres.good rfl
 replace HS := Hi_ (HS.out.grown hgn hpn)
 replace hS := hS.g2 ((G2.refl _ _ _).par hgn) (by omega) (by omega)
 clear hgn hpn hres
 refine Or.inl ⟨_, rfl, hS, fun hS => ?_⟩
 refine rt_t (i := 3) (some 7) (.pointer (some ⟨Q, 0, none⟩)) rfl hS (fun W _ => by kernel_rfl) ?_
 refine rt_t (i := 4) (some 8) (.pointer (some ⟨Q, 2, none⟩)) rfl hS (fun W _ => by kernel_rfl) ?_
 have c2 := HS.out.cell 2 (v := .string ⟨#[]⟩) rfl
 refine rt_st (i := 5) none (by kernel_rfl) rfl rfl (by kernel_rfl) _ (rs_str (b := Q) (f := 2) (s := tx l p false) rfl (by kernel_rfl) (by kernel_rfl) c2 (HS.out.frozen 2)) (BoxS.set_ hS (by omega) (by omega) _ _) (fun hS => ?_)
 have HX := Hi_ hS
 clear hS c2
 refine wpAnyH_done (by kernel_rfl) ?_ _
 try simp only [Act.put, lA, lB, lC]
 replace HS := Hi_ ((HS.out.put 2 (.string (tx l p false))).to (cs' := #[.int .i64 0, .int .i64 A0, .string (tx l p false), .string ⟨#[]⟩, .int .i64 0, .int .i64 0, .int .i64 0, .string ⟨#[]⟩, .slice none 0 0, .int .i64 0, .int .i64 0, .int .i64 0, .string ⟨#[]⟩, .slice none 0 0, .slice none 0 0, .slice none 0 0, .slice none 0 0]) rfl)
 generalize World.setCell _ _ _ = wv2 at *
 have p0 := HX.out.1.cell (i := 0) (v := .pointer (some ⟨g, 0, none⟩)) rfl
 go_wp2_with fail
 refine (HTN.out _ (p + 1) lsqB (by decide) H4.out (HS.out.bel h0 hg hQ) HS.out.1).mono ?_
 rintro r wv3 ⟨rfl, hb⟩
 clear p0
 replace HS := Hi_ (HS.out.keep hb)
 replace HX := Hi_ (HX.out.keep hb)
 clear hb
 have p0 := HX.out.1.cell (i := 0) (v := .pointer (some ⟨g, 0, none⟩)) rfl
 have hgq : wv3.heap.size ≠ g := by have := HS.out.lt; have := HS.out.size; omega
 have hba := (Bel.rfl_ wv3).al (.cells #[.string ⟨#[61]⟩] 9)
 replace HS := Hi_ (HS.out.keep hba)
 replace HX := Hi_ (HX.out.keep hba)
 go_wp2_with fail
 refine (HND.out _ (p + 1) wv3.heap.size [eqB] (HS.out.bel h0 hg hQ) HS.out.1 (by decide) (by decide) (Blk.new wv3 _ _) hgq).mono ?_
 rintro r wv4 hres
 clear p0
 clear hba hgq
 rw [show needsD l [eqB] ((p + 1), false) = (p + 1 + 1, false) from H5.out] at hres
 obtain ⟨hgn, hpn, rfl⟩ := hres.good rfl
 replace HS := Hi_ (HS.out.grown hgn hpn)
 replace HX := Hi_ (HX.out.g2 ((G2.refl _ _ _).par hgn) (by omega) (by omega))
 clear hgn hpn hres
 have p0 := HX.out.1.cell (i := 0) (v := .pointer (some ⟨g, 0, none⟩)) rfl
 go_wp2_with fail
 refine (HTN.out _ (p + 1 + 1) readB (by decide) H6.out (HS.out.bel h0 hg hQ) HS.out.1).mono ?_
 rintro r wv5 ⟨rfl, hb⟩
 clear p0
 replace HS := Hi_ (HS.out.keep hb)
 replace HX := Hi_ (HX.out.keep hb)
 clear hb
 have p0 := HX.out.1.cell (i := 0) (v := .pointer (some ⟨g, 0, none⟩)) rfl
 go_wp2_with fail
 refine (HNM.out _ (p + 1 + 1) true H7.out (HS.out.bel h0 hg hQ) HS.out.1).mono ?_
 rintro r wv6 ⟨rfl, hb⟩
 clear p0
 replace HS := Hi_ (HS.out.keep hb)
 replace HX := Hi_ (HX.out.keep hb)
 clear hb
 have p0 := HX.out.1.cell (i := 0) (v := .pointer (some ⟨g, 0, none⟩)) rfl
 go_wp2_with fail
 refine (HBH.out _ (p + 1 + 1) hlt (HS.out.bel h0 hg hQ) HS.out.1).mono ?_
 rintro r wv7 ⟨rfl, hb⟩
 clear p0
 replace HS := Hi_ (HS.out.keep hb)
 replace HX := Hi_ (HX.out.keep hb)
 clear hb
 have p0 := HX.out.1.cell (i := 0) (v := .pointer (some ⟨g, 0, none⟩)) rfl
 have c0 := HS.out.cell 0 (v := .int .i64 0) rfl
 have g0 := HS.out.frozen 0
 have x0 := HX.out.2.cell (i := 0) (v := .pointer (some ⟨Q, 0, none⟩)) rfl
 go_upto_region 9 with fail
 replace HS := Hi_ ((HS.out.put 0 (.int .i64 1)).to (cs' := #[.int .i64 1, .int .i64 A0, .string (tx l p false), .string ⟨#[]⟩, .int .i64 0, .int .i64 0, .int .i64 0, .string ⟨#[]⟩, .slice none 0 0, .int .i64 0, .int .i64 0, .int .i64 0, .string ⟨#[]⟩, .slice none 0 0, .slice none 0 0, .slice none 0 0, .slice none 0 0]) rfl)
 replace HX := Hi_ (HX.out.set_ (by omega) (by omega) 0 (.int .i64 1))
 generalize World.setCell _ _ _ = wv8 at *
 clear p0 x0 c0 g0
 go_upto_region 9 with fail
 refine wp_region_held_drew (S := BoxS w.heap.size (w.heap.size + 1) g Q) (by kernel_rfl) (HX.out.keep ((Bel.rfl_ _).dr)) (fun hS => ?_)
 replace HS := Hi_ (HS.out.keep ((Bel.rfl_ _).dr))
 clear HX
 refine rt_t (i := 0) (some 33) (.pointer (some ⟨Q, 0, none⟩)) rfl hS (fun V h => rl_pc rfl (by kernel_rfl) (h.2.cell (i := 0) (v := .pointer (some ⟨Q, 0, none⟩)) rfl)) ?_
 refine rt_t (i := 1) (some 34) (.pointer (some ⟨g, 0, none⟩)) rfl hS (fun V h => rl_pp rfl (by kernel_rfl) (h.1.cell (i := 0) (v := .pointer (some ⟨g, 0, none⟩)) rfl)) ?_
 refine rt_callp (i := 2) (some 35) (by kernel_rfl) rfl rfl (by kernel_rfl) 184 #[.pointer (some ⟨g, 0, none⟩), .int .i64 0] (by kernel_rfl) (HEX.out _ (p + 1 + 1) hlt (HS.out.bel h0 hg hQ) HS.out.1) ?_
 rintro r wv9 hres
 generalize exprD l E 60 (p + 1 + 1, false) = xe at *
 obtain ⟨e, qe, fe⟩ := xe
 dsimp only at *
 cases fe with
 | true =>
  obtain ⟨hgn, rfl⟩ := PsR.bad hres rfl
  have HG := Hi_ (HS.out.grew.par hgn)
  clear hgn hres
  refine Or.inr ⟨_, rfl, ?_⟩
  exact ⟨rfl, .mkBad (by rw [HEQ.out]) HG.out⟩
 | false =>
 obtain ⟨hgn, hpn, AE, ce, rfl, hse, hsl⟩ := PsR.good hres rfl
 have HSZ := HS.out.size
 replace HS := Hi_ (HS.out.grown hgn hpn)
 replace hS := hS.g2 ((G2.refl _ _ _).par hgn) (by omega) (by omega)
 replace HS := Hi_ HS.out.fresh
 have HE := Hi_ (low_mono (B' := w.heap.size) teR_more HSZ hsl)
 clear hgn hpn hres hsl HSZ
 refine Or.inl ⟨_, rfl, hS, fun hS => ?_⟩
 refine rt_t (i := 3) (some 36) (.pointer (some ⟨Q, 0, none⟩)) rfl hS (fun W _ => by kernel_rfl) ?_
 refine rt_t (i := 4) (some 37) (.pointer (some ⟨Q, 9, none⟩)) rfl hS (fun W _ => by kernel_rfl) ?_
 have c9 := HS.out.cell 9 (v := .int .i64 0) rfl
 have c10 := HS.out.cell 10 (v := .int .i64 0) rfl
 have c11 := HS.out.cell 11 (v := .int .i64 0) rfl
 have c12 := HS.out.cell 12 (v := .string ⟨#[]⟩) rfl
 have c13 := HS.out.cell 13 (v := .slice none 0 0) rfl
 refine rt_st (i := 5) none (by kernel_rfl) rfl rfl (by kernel_rfl) _ (rs_te (b := Q) (f := 9) (k := e.kind) (a := e.at_) (n := e.n) (s := e.name) (v4 := .slice AE e.args.length ce) ⟨_, _, _, rfl⟩ rfl (by kernel_rfl) (by kernel_rfl) c9 c10 c11 c12 c13 (fun i => HS.out.frozen i)) (BoxS.set_ (BoxS.set_ (BoxS.set_ (BoxS.set_ (BoxS.set_ hS (by omega) (by omega) _ _) (by omega) (by omega) _ _) (by omega) (by omega) _ _) (by omega) (by omega) _ _) (by omega) (by omega) _ _) (fun hS => ?_)
 have HX := Hi_ hS
 clear hS c9 c10 c11 c12 c13
 refine wpAnyH_done (by kernel_rfl) ?_ _
 try simp only [Act.put, lA, lB, lC]
 replace HS := Hi_ ((((((HS.out.put 9 (.int .i64 e.kind)).put 10 (.int .i64 e.at_)).put 11 (.int .i64 e.n)).put 12 (.string e.name)).put 13 (.slice AE e.args.length ce)).to (cs' := #[.int .i64 1, .int .i64 A0, .string (tx l p false), .string ⟨#[]⟩, .int .i64 0, .int .i64 0, .int .i64 0, .string ⟨#[]⟩, .slice none 0 0, .int .i64 e.kind, .int .i64 e.at_, .int .i64 e.n, .string e.name, .slice AE e.args.length ce, .slice none 0 0, .slice none 0 0, .slice none 0 0]) rfl)
 generalize World.setCell _ _ _ = wv10 at *
 go_wp2
 have hl0 := HS.out.lt
 exact bodyPost_end (v := .tuple #[]) (results_none rfl _ _ _) rfl (.mkGood HEQ.out HS.out (TCR.shut hns (Nat.zero_le _) (Nat.zero_le _) hse (Sl.nil_ _ _) (HE.out.keep HS.out.low_) (Sl.nil_ _ _) (Sl.nil_ _ _) (Sl.nil_ _ _)))
end Go.Proofs.YtmfjlcpjemccmaaGreatDoor
