/- The program's vars: walked. Each lemma states its own conditions. -/
import Derived.Test.YtmfjlcpjemccmaaGreatDoorTts31
namespace Go.Proofs.YtmfjlcpjemccmaaGreatDoor
open Go.RowKit
def PLRes {α : Type} (r : Rep α) (w : World) (g : Nat) (lv : Value) (l : List Tok) (E : Nat) (x : List α × RS) (e : Ending) (w' : World) : Prop :=
 PsR w g lv l E x.2 (fun e w' => ∃ A c, e = .returned (.slice A x.1.length c) ∧ Sl r (low w.heap.size w') (.slice A x.1.length c) x.1) e w'
theorem PLRes.mk {α : Type} {r : Rep α} {w : World} {g : Nat} {lv : Value} {l : List Tok} {E p : Nat} {x : List α × RS} {w' : World} {A : Option Addr} {c : Nat} {xs : List α} (hx : x = (xs, (p, false))) (hg : w.grownBy w' (some g)) (hr : Ps w' g lv p E) (h : Sl r (low w.heap.size w') (.slice A xs.length c) xs) : PLRes r w g lv l E x (.returned (.slice A xs.length c)) w' := by
 subst hx
 exact .mkGood rfl hg hr ⟨A, c, rfl, h⟩
theorem varD_var {l : List Tok} {p : Nat} (h : tx l p false = varB) : varD l (p, false) = (⟨(nameD l (p + 1, false)).1, 0⟩, needD l semiB (nameD l (p + 1, false)).2) := by
 unfold varD
 simp only []
 rw [needD_yes (l := l) (p := p) (s := tx l p false) rfl, if_neg (by rw [h]; decide)]
theorem varD_arr {l : List Tok} {p : Nat} (h : tx l p false = arrB) : varD l (p, false) = (⟨(nameD l (p + 1, false)).1, (numD l (failD (decide (tx l (nameD l (p + 1, false)).2.1 (nameD l (p + 1, false)).2.2 = zeroB)) (nameD l (p + 1, false)).2)).1⟩, needD l semiB (numD l (failD (decide (tx l (nameD l (p + 1, false)).2.1 (nameD l (p + 1, false)).2.2 = zeroB)) (nameD l (p + 1, false)).2)).2) := by
 unfold varD
 simp only []
 rw [needD_yes (l := l) (p := p) (s := tx l p false) rfl, if_pos h]
theorem varsD_bad {l : List Tok} {n p : Nat} : varsD l n (p, true) = ([], (p, true)) := varsD_stop (by simp)
set_option maxRecDepth 20000 in
set_option maxHeartbeats 4000000 in
theorem pvars_any (l : List Tok) (lv : Value) (E g n : Nat) (p0 : Nat) (w0 w : World) (hl : Sl tokR w0 lv l) (hn : l.length ≤ 6000) (hok : ∀ t ∈ l, TokOk t) (hm : ∀ t ∈ l, t.text.size ≤ maxLen) (hg : w0.heap.size ≤ g) (hp : p0 ≤ l.length) (h0 : Bel w0 w) (h : Ps w g lv p0 E) (hf : l.length - p0 < n) (hn2 : n ≤ 6001) :
  Calls Tryz.prog 142 #[.pointer (some ⟨g, 0, none⟩)] w fun r w' => PLRes tvR w g lv l E (varsD l n (p0, false)) r w' := by
 have HTN := Hi_ (kTN (E := E) (g := g) hl hn)
 have HTY := Hi_ (kTY (E := E) (g := g) hl hn)
 have HSE := Hi_ (kSE (E := E) (g := g) hl hn)
 have HFL := Hi_ (kFL (E := E) (g := g) hl hn)
 have HNA := Hi_ (kNA (E := E) hl hn hm hg)
 have HNU := Hi_ (kNU (E := E) hl hn hok hg)
 have HND := Hi_ (kND (E := E) hl hn hg)
 have hgl := h.lt
 have HR0 := Hi_ h
 obtain ⟨y, hy⟩ : ∃ y, y = varsD l n (p0, false) := ⟨_, rfl⟩
 have HY0 : Hid ((([] : List TV) ++ (varsD l n (p0, false)).1, (varsD l n (p0, false)).2) = y) := Hi_ hy.symm
 rw [← hy]
 clear hy h
 go_enter Tryz.func142, Tryz.ntmps142
 go_wp2
 go_loopw [3] (fun v wr => ∃ (xs : List TV) (p m : Nat), Hid (OwnL tvR 55 w.heap.size wr v xs) ∧ Hid (Ps wr g lv p E) ∧ Hid (w.grownBy wr (some g)) ∧ Hid ((xs ++ (varsD l m (p, false)).1, (varsD l m (p, false)).2) = y) ∧ l.length - p < m ∧ p ≤ l.length ∧ xs.length + m = n) (fun v _ => n - lenV v)
 case atStart => exact ⟨[], p0, n, OwnL.nil _ _ _ _, HR0, World.grownBy.refl _ _, HY0, hf, hp, by simp⟩
 case round =>
  obtain ⟨xs, p, m, HO, HR, HG, HY, hlt, hq, hxm⟩ := hrel
  clear HR0 HY0 hf hp
  have HM := Hi_ HO.out.len
  obtain ⟨va, vc, rfl⟩ := HO.out.slice
  have hba := (Bel.rfl_ wr).al (.cells #[.string ⟨#[]⟩, .int .i64 0] 55)
  have HV := Hi_ (Blk.new wr 55 #[.string ⟨#[]⟩, .int .i64 0])
  have HB := Hi_ (hba.grown (some g))
  replace HR := Hi_ (HR.out.keep hba)
  have hwr := HG.out.size
  clear hba
  go_upto_region 4 with fail
  generalize wr.alloc (.cells #[.string ⟨#[]⟩, .int .i64 0] 55) = W2 at *
  generalize hG : wr.heap.size = G at *
  have hGg : g < G := by omega
  have hGw : w.heap.size ≤ G := by omega
  by_cases hv : tx l p false = varB
  ·have hgo : tx l p false = varB ∨ tx l p false = arrB := .inl hv
   obtain ⟨m, rfl⟩ : ∃ m', m = m' + 1 := ⟨m - 1, by omega⟩
   have HGO := Hi_ (varsD_go (n := m) (q := (p, false)) rfl hgo)
   have HLE := Hi_ (varD_le (q := (p, false)) hok rfl hgo hq)
   have HVD := Hi_ (varD_var hv)
   have hlt1 := tx_lt (l := l) (p := p) (f := false) (by rw [hv]; decide)
   have hns := name_size (l := l) (q := (p + 1, false)) hm
   have HT := Hi_ hv
   clear hgo hv
   go_wp2_with fail
   refine (HTY.out _ p varB (by decide) HT.out (grownBel h0 hg (HG.out.trans HB.out)) HR.out).mono ?_
   rintro r w4 ⟨rfl, hpn, hgn⟩
   replace HB := Hi_ (HB.out.trans hgn)
   replace HV := Hi_ (HV.out.grown hgn (by simp; omega))
   replace HR := Hi_ hpn
   clear hgn hpn
   go_wp2_with fail
   refine (HNA.out _ (p + 1) (grownBel h0 hg (HG.out.trans HB.out)) HR.out).mono ?_
   rintro r w5 hres
   have hnl := nameD_le (l := l) (q := (p + 1, false)) hlt1
   generalize nameD l (p + 1, false) = nn at *
   obtain ⟨nm, q2, f2⟩ := nn
   dsimp only at *
   cases f2 with
   | true =>
    obtain ⟨hgn, rfl⟩ := hres.bad rfl
    have HG2 := Hi_ (HG.out.trans (HB.out.trans hgn))
    clear hgn hres
    go_wp2
    exact ⟨rfl, .mkBad (by rw [← HY.out, HGO.out, HVD.out]; dsimp only; rw [needD_bad, varsD_bad]) HG2.out⟩
   | false =>
   obtain ⟨hgn, hpn, rfl⟩ := hres.good rfl
   clear hres
   replace HB := Hi_ (HB.out.trans hgn)
   replace HV := Hi_ (HV.out.grown hgn (by simp; omega))
   replace HR := Hi_ hpn
   clear hgn hpn
   have z0 := HV.out.cell (i := 0) rfl
   have fz0 := HV.out.frozen 0
   go_upto_region 11 with fail
   replace HV := Hi_ (show Blk _ G 55 #[.string nm, .int .i64 0] from HV.out.set_ 0 (.string nm))
   replace HR := Hi_ (show Ps _ g lv _ E from Blk.far_ (R := G) HR.out (by omega) 0 (.string nm))
   replace HB := Hi_ (grownNew HB.out (Nat.le_of_eq hG) 0 (.string nm))
   generalize World.setCell _ _ _ = W6 at *
   clear z0 fz0
   have hq2 : q2 ≤ l.length := hnl
   have hgq : W6.heap.size ≠ g := by have := HB.out.size; omega
   have hb := (Bel.rfl_ W6).al (.cells #[.string ⟨#[59]⟩] 9)
   replace HB := Hi_ (HB.out.trans (hb.grown (some g)))
   replace HV := Hi_ (HV.out.keep hb)
   replace HR := Hi_ (HR.out.keep hb)
   clear hb
   go_wp2_with fail
   refine (HND.out _ q2 W6.heap.size [semiB] (grownBel h0 hg (HG.out.trans HB.out)) HR.out (by decide) (by decide) (Blk.new W6 _ _) hgq).mono ?_
   rintro r w8 hres
   rw [show needsD l [semiB] (q2, false) = needD l semiB (q2, false) from rfl] at hres
   clear hgq
   have hnd := needD_le (l := l) (s := semiB) (q := (q2, false)) (by decide) hq2
   generalize needD l semiB (q2, false) = st at *
   obtain ⟨q9, f9⟩ := st
   dsimp only at *
   cases f9 with
   | true =>
    obtain ⟨hgn, rfl⟩ := hres.bad rfl
    have HG2 := Hi_ (HG.out.trans (HB.out.trans hgn))
    clear hgn hres
    go_wp2
    exact ⟨rfl, .mkBad (by rw [← HY.out, HGO.out, HVD.out]; dsimp only; rw [varsD_bad]) HG2.out⟩
   | false =>
   obtain ⟨hgn, hpn, rfl⟩ := hres.good rfl
   clear hres
   replace HB := Hi_ (HB.out.trans hgn)
   replace HV := Hi_ (HV.out.grown hgn (by simp; omega))
   replace HR := Hi_ hpn
   clear hgn hpn
   have HCC := Hi_ (blk_cells (cs := [.string nm, .int .i64 0]) HV.out)
   have HOW := Hi_ (HO.out.at_ tvR_more HB.out fun k hk => by cases hk; exact hgl)
   have hbase : w.heap.size ≤ w8.heap.size := Nat.le_trans hwr (hG ▸ HB.out.size)
   obtain ⟨cells, ho1, ho2⟩ := HOW.out
   have HO1 := Hi_ ho1
   have HO2 := Hi_ ho2
   have hxs : xs.length ≤ 6000 := by omega
   have HYN : Hid ((xs ++ [⟨nm, 0⟩] ++ (varsD l m (q9, false)).1, (varsD l m (q9, false)).2) = y) := Hi_ (by rw [← HY.out, HGO.out, HVD.out, List.append_assoc, List.singleton_append])
   have hgt := HLE.out.1
   rw [HVD.out] at hgt
   dsimp only at hgt
   clear ho1 ho2 HOW HO HY HGO
   go_upto_region 12 with fail
   refine wl_region ?_
   refine wl_k (some 29) (.slice va xs.length vc) ?_
   refine wl_e (some 30) (.agg #[.string nm, .int .i64 0]) (run_loadRow 55 _ rfl elTV G 0 (by kernel_rfl) [.string nm, .int .i64 0] HCC.out rfl (by kernel_rfl)) ?_
   refine wl_one (some 31) rfl rfl 45 55 (.tmp 30) rfl [.string nm, .int .i64 0] (by kernel_rfl) elTV rfl (by decide) ?_
   refine wl_app (some 32) rfl w8 rfl (.tmp 29) (.tmp 31) 45 rfl w.heap.size elTV (.slice va xs.length vc) xs.length _ (by kernel_rfl) HO1.out [.string nm, .int .i64 0] (by kernel_rfl) rfl (by simp [Value.oneCell']) (by simp only [maxLen]; omega) (by omega) hbase ?_
   intro g2 cap w10 hown hg10 hv10
   have HP := Hi_ (OwnL.pushedP tvR_more (w := w) (E := E) (x := ⟨nm, 0⟩) (p := q9) HO1.out HO2.out hown hg10 (hv10.imp id fun h k hk => by (have : g2 = k := Option.some.inj hk); omega) (C := w8.heap.size) ⟨rfl, hns⟩ hbase (fun k hk => (HO1.out.lt k hk).2) (HG.out.trans HB.out) hgl HR.out)
   clear hown hg10 hv10
   refine wl_k (some 3) (.slice (some ⟨g2, 0, none⟩) (xs.length + 1) cap) ?_
   refine wl_nil ?_
   try simp only [Act.put, lA, lB, lC]
   go_wp2
   go_roundw
   case rel => exact ⟨xs ++ [⟨nm, 0⟩], q9, m, Hi_ HP.out.1, Hi_ HP.out.2.2, Hi_ HP.out.2.1, HYN, by omega, hnd, by rw [List.length_append]; simp only [List.length_cons, List.length_nil]; omega⟩
   case measure =>
    have hM := HM.out
    unfold lenV at hM
    simp [lenV]
    omega
  by_cases ha : tx l p false = arrB
  ·have hgo : tx l p false = varB ∨ tx l p false = arrB := .inr ha
   have HNV := Hi_ hv
   replace hv := ha
   clear ha
   obtain ⟨m, rfl⟩ : ∃ m', m = m' + 1 := ⟨m - 1, by omega⟩
   have HGO := Hi_ (varsD_go (n := m) (q := (p, false)) rfl hgo)
   have HLE := Hi_ (varD_le (q := (p, false)) hok rfl hgo hq)
   have HVD := Hi_ (varD_arr hv)
   have hlt1 := tx_lt (l := l) (p := p) (f := false) (by rw [hv]; decide)
   have hns := name_size (l := l) (q := (p + 1, false)) hm
   have HT := Hi_ hv
   clear hgo hv
   go_wp2_with fail
   refine (HTN.out _ p varB (by decide) HNV.out (grownBel h0 hg (HG.out.trans HB.out)) HR.out).mono ?_
   rintro r w3 ⟨rfl, hb⟩
   replace HB := Hi_ (HB.out.trans (hb.grown (some g)))
   replace HV := Hi_ (HV.out.keep hb)
   replace HR := Hi_ (HR.out.keep hb)
   clear hb
   go_wp2_with fail
   refine (HTY.out _ p arrB (by decide) HT.out (grownBel h0 hg (HG.out.trans HB.out)) HR.out).mono ?_
   rintro r w4 ⟨rfl, hpn, hgn⟩
   replace HB := Hi_ (HB.out.trans hgn)
   replace HV := Hi_ (HV.out.grown hgn (by simp; omega))
   replace HR := Hi_ hpn
   clear hgn hpn
   go_wp2_with fail
   refine (HNA.out _ (p + 1) (grownBel h0 hg (HG.out.trans HB.out)) HR.out).mono ?_
   rintro r w5 hres
   have hnl := nameD_le (l := l) (q := (p + 1, false)) hlt1
   generalize nameD l (p + 1, false) = nn at *
   obtain ⟨nm, q2, f2⟩ := nn
   dsimp only at *
   cases f2 with
   | true =>
    obtain ⟨hgn, rfl⟩ := hres.bad rfl
    have HG2 := Hi_ (HG.out.trans (HB.out.trans hgn))
    clear hgn hres
    go_wp2
    exact ⟨rfl, .mkBad (by rw [← HY.out, HGO.out, HVD.out]; dsimp only; rw [decide_eq_false (by rw [tx_bad]; decide), failD_false, numD_bad, needD_bad, varsD_bad]) HG2.out⟩
   | false =>
   obtain ⟨hgn, hpn, rfl⟩ := hres.good rfl
   clear hres
   replace HB := Hi_ (HB.out.trans hgn)
   replace HV := Hi_ (HV.out.grown hgn (by simp; omega))
   replace HR := Hi_ hpn
   clear hgn hpn
   have z0 := HV.out.cell (i := 0) rfl
   have fz0 := HV.out.frozen 0
   go_upto_region 8 with fail
   replace HV := Hi_ (show Blk _ G 55 #[.string nm, .int .i64 0] from HV.out.set_ 0 (.string nm))
   replace HR := Hi_ (show Ps _ g lv _ E from Blk.far_ (R := G) HR.out (by omega) 0 (.string nm))
   replace HB := Hi_ (grownNew HB.out (Nat.le_of_eq hG) 0 (.string nm))
   generalize World.setCell _ _ _ = W6 at *
   clear z0 fz0
   have hq1 : q2 ≤ l.length := hnl
   by_cases hz : tx l q2 false = zeroB
   ·have HZ := Hi_ (decide_eq_true hz)
    clear hz
    go_wp2_with fail
    refine (HSE.out _ q2 zeroB true (by decide) HZ.out (grownBel h0 hg (HG.out.trans HB.out)) HR.out).mono ?_
    rintro r w6 ⟨rfl, hb⟩
    replace HB := Hi_ (HB.out.trans (hb.grown (some g)))
    replace HV := Hi_ (HV.out.keep hb)
    replace HR := Hi_ (HR.out.keep hb)
    clear hb
    go_wp2_with fail
    refine (HFL.out _ q2 (grownBel h0 hg (HG.out.trans HB.out)) HR.out).mono ?_
    rintro r w7 ⟨rfl, hb⟩
    have HG2 := Hi_ (HG.out.trans (HB.out.trans (hb.grown (some g))))
    clear hb
    go_wp2
    exact ⟨rfl, .mkBad (by rw [← HY.out, HGO.out, HVD.out]; dsimp only; rw [HZ.out, failD_true, numD_bad, needD_bad, varsD_bad]) HG2.out⟩
   have HZ := Hi_ (decide_eq_false hz)
   rw [HZ.out, failD_false] at HVD
   clear hz
   go_wp2_with fail
   refine (HSE.out _ q2 zeroB false (by decide) HZ.out (grownBel h0 hg (HG.out.trans HB.out)) HR.out).mono ?_
   rintro r w6 ⟨rfl, hb⟩
   replace HB := Hi_ (HB.out.trans (hb.grown (some g)))
   replace HV := Hi_ (HV.out.keep hb)
   replace HR := Hi_ (HR.out.keep hb)
   clear hb
   go_wp2_with fail
   refine (HNU.out _ q2 (grownBel h0 hg (HG.out.trans HB.out)) HR.out).mono ?_
   rintro r w7 hres
   have hnl2 := (numD_le (l := l) (q := (q2, false)) hok hq1).1
   generalize numD l (q2, false) = nn at *
   obtain ⟨kk, q3, f3⟩ := nn
   dsimp only at *
   cases f3 with
   | true =>
    obtain ⟨hgn, rfl⟩ := hres.bad rfl
    have HG2 := Hi_ (HG.out.trans (HB.out.trans hgn))
    clear hgn hres
    go_wp2
    exact ⟨rfl, .mkBad (by rw [← HY.out, HGO.out, HVD.out]; dsimp only; rw [needD_bad, varsD_bad]) HG2.out⟩
   | false =>
   obtain ⟨hgn, hpn, rfl⟩ := hres.good rfl
   clear hres
   replace HB := Hi_ (HB.out.trans hgn)
   replace HV := Hi_ (HV.out.grown hgn (by simp; omega))
   replace HR := Hi_ hpn
   clear hgn hpn
   have z1 := HV.out.cell (i := 1) rfl
   have fz1 := HV.out.frozen 1
   go_upto_region 11 with fail
   replace HV := Hi_ (show Blk _ G 55 #[.string nm, .int .i64 kk] from HV.out.set_ 1 (.int .i64 kk))
   replace HR := Hi_ (show Ps _ g lv _ E from Blk.far_ (R := G) HR.out (by omega) 1 (.int .i64 kk))
   replace HB := Hi_ (grownNew HB.out (Nat.le_of_eq hG) 1 (.int .i64 kk))
   generalize World.setCell _ _ _ = W7 at *
   clear z1 fz1
   have hq2 : q3 ≤ l.length := hnl2
   have hgq : W7.heap.size ≠ g := by have := HB.out.size; omega
   have hb := (Bel.rfl_ W7).al (.cells #[.string ⟨#[59]⟩] 9)
   replace HB := Hi_ (HB.out.trans (hb.grown (some g)))
   replace HV := Hi_ (HV.out.keep hb)
   replace HR := Hi_ (HR.out.keep hb)
   clear hb
   go_wp2_with fail
   refine (HND.out _ q3 W7.heap.size [semiB] (grownBel h0 hg (HG.out.trans HB.out)) HR.out (by decide) (by decide) (Blk.new W7 _ _) hgq).mono ?_
   rintro r w8 hres
   rw [show needsD l [semiB] (q3, false) = needD l semiB (q3, false) from rfl] at hres
   clear hgq
   have hnd := needD_le (l := l) (s := semiB) (q := (q3, false)) (by decide) hq2
   generalize needD l semiB (q3, false) = st at *
   obtain ⟨q9, f9⟩ := st
   dsimp only at *
   cases f9 with
   | true =>
    obtain ⟨hgn, rfl⟩ := hres.bad rfl
    have HG2 := Hi_ (HG.out.trans (HB.out.trans hgn))
    clear hgn hres
    go_wp2
    exact ⟨rfl, .mkBad (by rw [← HY.out, HGO.out, HVD.out]; dsimp only; rw [varsD_bad]) HG2.out⟩
   | false =>
   obtain ⟨hgn, hpn, rfl⟩ := hres.good rfl
   clear hres
   replace HB := Hi_ (HB.out.trans hgn)
   replace HV := Hi_ (HV.out.grown hgn (by simp; omega))
   replace HR := Hi_ hpn
   clear hgn hpn
   have HCC := Hi_ (blk_cells (cs := [.string nm, .int .i64 kk]) HV.out)
   have HOW := Hi_ (HO.out.at_ tvR_more HB.out fun k hk => by cases hk; exact hgl)
   have hbase : w.heap.size ≤ w8.heap.size := Nat.le_trans hwr (hG ▸ HB.out.size)
   obtain ⟨cells, ho1, ho2⟩ := HOW.out
   have HO1 := Hi_ ho1
   have HO2 := Hi_ ho2
   have hxs : xs.length ≤ 6000 := by omega
   have HYN : Hid ((xs ++ [⟨nm, kk⟩] ++ (varsD l m (q9, false)).1, (varsD l m (q9, false)).2) = y) := Hi_ (by rw [← HY.out, HGO.out, HVD.out, List.append_assoc, List.singleton_append])
   have hgt := HLE.out.1
   rw [HVD.out] at hgt
   dsimp only at hgt
   clear ho1 ho2 HOW HO HY HGO
   go_upto_region 12 with fail
   refine wl_region ?_
   refine wl_k (some 29) (.slice va xs.length vc) ?_
   refine wl_e (some 30) (.agg #[.string nm, .int .i64 kk]) (run_loadRow 55 _ rfl elTV G 0 (by kernel_rfl) [.string nm, .int .i64 kk] HCC.out rfl (by kernel_rfl)) ?_
   refine wl_one (some 31) rfl rfl 45 55 (.tmp 30) rfl [.string nm, .int .i64 kk] (by kernel_rfl) elTV rfl (by decide) ?_
   refine wl_app (some 32) rfl w8 rfl (.tmp 29) (.tmp 31) 45 rfl w.heap.size elTV (.slice va xs.length vc) xs.length _ (by kernel_rfl) HO1.out [.string nm, .int .i64 kk] (by kernel_rfl) rfl (by simp [Value.oneCell']) (by simp only [maxLen]; omega) (by omega) hbase ?_
   intro g2 cap w10 hown hg10 hv10
   have HP := Hi_ (OwnL.pushedP tvR_more (w := w) (E := E) (x := ⟨nm, kk⟩) (p := q9) HO1.out HO2.out hown hg10 (hv10.imp id fun h k hk => by (have : g2 = k := Option.some.inj hk); omega) (C := w8.heap.size) ⟨rfl, hns⟩ hbase (fun k hk => (HO1.out.lt k hk).2) (HG.out.trans HB.out) hgl HR.out)
   clear hown hg10 hv10
   refine wl_k (some 3) (.slice (some ⟨g2, 0, none⟩) (xs.length + 1) cap) ?_
   refine wl_nil ?_
   try simp only [Act.put, lA, lB, lC]
   go_wp2
   go_roundw
   case rel => exact ⟨xs ++ [⟨nm, kk⟩], q9, m, Hi_ HP.out.1, Hi_ HP.out.2.2, Hi_ HP.out.2.1, HYN, by omega, hnd, by rw [List.length_append]; simp only [List.length_cons, List.length_nil]; omega⟩
   case measure =>
    have hM := HM.out
    unfold lenV at hM
    simp [lenV]
    omega
  have HNV := Hi_ hv
  have HNR := Hi_ ha
  have HE := HY.out
  rw [varsD_stop (by rintro ⟨-, h | h⟩; exact hv h; exact ha h), List.append_nil] at HE
  clear hv ha
  go_wp2_with fail
  refine (HTN.out _ p varB (by decide) HNV.out (grownBel h0 hg (HG.out.trans HB.out)) HR.out).mono ?_
  rintro r w3 ⟨rfl, hb⟩
  replace HB := Hi_ (HB.out.trans (hb.grown (some g)))
  replace HV := Hi_ (HV.out.keep hb)
  replace HR := Hi_ (HR.out.keep hb)
  clear hb
  go_wp2_with fail
  refine (HTN.out _ p arrB (by decide) HNR.out (grownBel h0 hg (HG.out.trans HB.out)) HR.out).mono ?_
  rintro r w4 ⟨rfl, hb⟩
  replace HB := Hi_ (HB.out.trans (hb.grown (some g)))
  replace HV := Hi_ (HV.out.keep hb)
  replace HR := Hi_ (HR.out.keep hb)
  clear hb
  have HOW := Hi_ (HO.out.at_ tvR_more HB.out fun k hk => by cases hk; exact hgl)
  go_wp2
  go_ret
  exact .mk HE.symm (HG.out.trans HB.out) HR.out (HOW.out.sl tvR_more)
end Go.Proofs.YtmfjlcpjemccmaaGreatDoor
