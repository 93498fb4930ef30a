/- DiskTells answers true: the walk. Each lemma states its own conditions. -/
import Derived.Test.YtkojeofegoljpaaDskQ
import Derived.Deep.DeepCutAuto
namespace Go.Proofs.Ytkojeofegoljpaa
open Go.RowKit

set_option maxRecDepth 20000 in
set_option maxHeartbeats 4000000 in
theorem dTells_any (d : Dk) (val kv : Value) (sn n : Int) (s : ByteArray) (l : List Bool) (w : World) (h : DkV w d val) (ho : d.ok) (hs : s.size ≤ maxLen) (hk : Sl boolR w kv l) (hl : l.length ≤ 140737488351232) :
    Calls Try.prog 3 #[val, .int .i64 sn, .int .i64 n, .string s, kv] w fun r w' => r = .returned (.bool true) ∧ Bel w w' := by
  have HNEW := Lib.hid (fun W => new_any sn W)
  have HREAD := Lib.hid (fun val W h => read_any d val n W h ho)
  have HWRITE := Lib.hid (fun val W h => write_any d val n s W h ho hs)
  have HFLUSH := Lib.hid (fun val W h => flush_any d val W h ho)
  have HCRASH := Lib.hid (fun val W h (hb : Bel w W) => crash_any d val kv l W h ho (hk.keep hb) hl)
  have HCK := Lib.hid (fun val W h => check_any d val W h ho)
  have HCD := Lib.hid (fun val W h => checkDisk_any d val W h ho)
  have HRO : Hid (d.one n = 0 → ∀ val W, DkV W d val → Calls Try.prog 15 #[val, .int .i64 n] W fun r w' => r = .returned (.string (d.read n)) ∧ Bel W w') := Lib.hid (fun h0 val W hv => by
    obtain ⟨_, h1, h2⟩ := Dk.one_zero h0
    obtain ⟨m, rfl⟩ : ∃ m : Nat, n = m := ⟨n.toNat, by omega⟩
    obtain ⟨s0, hs0⟩ : ∃ x, d.kept[m]? = some x := ⟨_, List.getElem?_eq_getElem (by omega)⟩
    have := readOf_any d val m s0 W hv hs0
    rw [Dk.read, if_pos h0, Int.toNat_natCast, hs0]
    exact this)
  have HWO : Hid (d.wr n s = 0 → ∀ val W, DkV W d val → Calls Try.prog 16 #[val, .int .i64 n, .string s] W fun r w' => ∃ val', r = .returned val' ∧ DkV w' (d.wrote n s) val' ∧ Bel W w') := Lib.hid (fun h0 val W hv => by
    rw [Dk.wrote, if_pos h0]
    refine writeOf_any d val n s W hv ?_
    have h1 : d.one n = 0 := by
      unfold Dk.wr at h0
      split at h0
      · assumption
      · exact h0
    exact (Dk.err_small (Dk.one_zero h1).1).2)
  have HCO : Hid (d.err = 0 → ∀ val W, DkV W d val → Calls Try.prog 17 #[val, .slice none 0 0, .bool true] W fun r w' => ∃ val', r = .returned val' ∧ DkV w' d.flushed val' ∧ Bel W w') := Lib.hid (fun h0 val W hv => by
    rw [Dk.flushed, if_pos h0]
    have := crashOf_any d val (.slice none 0 0) [] true W hv h0 (Sl.nil_ _ _) (by simp)
    rw [kall_true] at this
    exact this)
  have HCO2 : Hid (d.err = 0 → ∀ val W, DkV W d val → Bel w W → Calls Try.prog 17 #[val, kv, .bool false] W fun r w' => ∃ val', r = .returned val' ∧ DkV w' (d.crashed l) val' ∧ Bel W w') := Lib.hid (fun h0 val W hv hb => by
    rw [Dk.crashed, if_pos h0]
    have := crashOf_any d val kv l false W hv h0 (hk.keep hb) hl
    rw [kall_false] at this
    exact this)
  have HND : Hid (1 ≤ sn ∧ sn ≤ 600 → ∀ W, Calls Try.prog 13 #[.int .i64 sn] W fun r w' => ∃ val', r = .returned val' ∧ DkV w' (newDk sn) val' ∧ Bel W w') := Lib.hid (fun h0 W => by
    obtain ⟨m, rfl⟩ : ∃ m : Nat, sn = m := ⟨sn.toNat, by omega⟩
    rw [newDk, if_pos h0, Int.toNat_natCast]
    exact newDisk_any m W (by omega) (by omega))
  have HI1 := Lib.hid (fun va vb W h1 h2 => diskIs_any (newDk sn) (newDk sn) va vb (newErr sn) W h1 h2 (besides_of newDk_no))
  have HI2 := Lib.hid (fun va vb W h1 h2 => diskIs_any (d.wrote n s) (d.wrote n s) va vb (d.wr n s) W h1 h2 (besides_of wrote_no))
  have HI3 := Lib.hid (fun va vb W h1 h2 => diskIs_any d.flushed d.flushed va vb d.err W h1 h2 (besides_of flushed_no))
  have HI4 := Lib.hid (fun va vb W h1 h2 => diskIs_any (d.crashed l) (d.crashed l) va vb d.err W h1 h2 (besides_of crashed_no))
  have HBEG := Lib.hid diskBegun_any
  have HE1 : Hid ((if 1 ≤ sn ∧ sn ≤ 600 then (0 : Int) else 3) = newErr sn) := Lib.hid rfl
  have HU1 : Hid (newErr sn ≠ 0 → newDk sn = noDk) := Lib.hid newDk_no
  have HU2 : Hid (d.wr n s ≠ 0 → d.wrote n s = noDk) := Lib.hid wrote_no
  have HU3 : Hid (d.err ≠ 0 → d.flushed = noDk) := Lib.hid flushed_no
  have HU4 : Hid (d.err ≠ 0 → d.crashed l = noDk) := Lib.hid crashed_no
  have HRD : Hid (d.one n ≠ 0 → d.read n = ⟨#[]⟩) := Lib.hid read_no
  have HO : Hid ((if d.err = 0 then if 0 ≤ n ∧ n < d.kept.length then (0 : Int) else 5 else d.err) = d.one n) := Lib.hid rfl
  have HWR : Hid ((if d.one n = 0 then if s.size = 32 then if d.written.length = 600 then (2 : Int) else 0 else 1 else d.one n) = d.wr n s) := Lib.hid rfl
  generalize newDk sn = U1 at *
  generalize newErr sn = E1 at *
  generalize d.wrote n s = U2 at *
  generalize d.wr n s = WE at *
  generalize d.flushed = U3 at *
  generalize d.crashed l = U4 at *
  generalize d.read n = RD at *
  generalize d.one n = O at *
  generalize d.err = E at *
  have HH := Lib.hid h
  have hsl : s.size ≤ 9223372036854775807 := by simp only [maxLen] at hs; exact hs
  obtain ⟨A1, c1, A2, c2, rfl, h1, h2⟩ := h
  obtain ⟨hl1, hl2⟩ := dkLen h1 h2
  obtain ⟨A3, c3, rfl, -⟩ := hk
  clear h1 h2 ho hs hl
  go_enter Try.func3, Try.ntmps3
  go_wp2_with fail
  refine (HNEW.out _).mono ?_
  rintro r w1 ⟨v1, rfl, hd, hb⟩
  have HB := Lib.hid (((Bel.rfl_ w).al (.cells #[.slice A1 d.kept.length c1, .slice A2 d.written.length c2] 25)).tr hb)
  have HA : Hid (Alls w1 [(w.heap.size, d)]) := Lib.hid (((Alls.nil _).cons (Hold.new HH.out)).keep hb)
  clear hb HH HNEW
  obtain ⟨B2, f2, C2, g2, rfl, -, -⟩ := id hd
  go_upto_region 2 with fail
  have HLT2 : Hid (w.heap.size < w1.heap.size) := Lib.hid (HA.out.get w.heap.size d (by simp)).lt
  replace HA : Hid (Alls (w1.alloc (.cells #[.slice B2 U1.kept.length f2, .slice C2 U1.written.length g2] 25)) [(w1.heap.size, U1), (w.heap.size, d)]) := Lib.hid ((HA.out.keep ((Bel.rfl_ w1).al _)).cons (Hold.new hd))
  replace HB := Lib.hid (HB.out.al (.cells #[.slice B2 U1.kept.length f2, .slice C2 U1.written.length g2] 25))
  clear hd
  generalize hW : w1.alloc (.cells #[.slice B2 U1.kept.length f2, .slice C2 U1.written.length g2] 25) = W2 at *
  clear hW
  obtain ⟨ar, br, cr, dr, hBr, hDr⟩ := HA.out.get w.heap.size d (by simp)
  have qr0 := hBr.cell (i := 0) (v := .slice ar d.kept.length br) rfl
  have qr1 := hBr.cell (i := 1) (v := .slice cr d.written.length dr) rfl
  go_wp2_with fail
  refine (HREAD.out _ _ hDr).mono ?_
  rintro r w2 ⟨rfl, hb⟩
  replace HA := Lib.hid (HA.out.keep hb)
  replace HB := Lib.hid (HB.out.tr hb)
  clear hb hBr hDr qr0 qr1 HREAD
  go_upto_region 3 with fail
  obtain ⟨ar, br, cr, dr, hBr, hDr⟩ := HA.out.get w.heap.size d (by simp)
  have qr0 := hBr.cell (i := 0) (v := .slice ar d.kept.length br) rfl
  have qr1 := hBr.cell (i := 1) (v := .slice cr d.written.length dr) rfl
  go_wp2_with fail
  refine (HWRITE.out _ _ hDr).mono ?_
  rintro r w3 ⟨v3, rfl, hd, hb⟩
  replace HA := Lib.hid (HA.out.keep hb)
  replace HB := Lib.hid (HB.out.tr hb)
  clear hb hBr hDr qr0 qr1 HWRITE
  obtain ⟨B4, f4, C4, g4, rfl, -, -⟩ := id hd
  go_upto_region 4 with fail
  have HLT4 : Hid (w1.heap.size < w3.heap.size) := Lib.hid (HA.out.get w1.heap.size U1 (by simp)).lt
  replace HA : Hid (Alls (w3.alloc (.cells #[.slice B4 U2.kept.length f4, .slice C4 U2.written.length g4] 25)) [(w3.heap.size, U2), (w1.heap.size, U1), (w.heap.size, d)]) := Lib.hid ((HA.out.keep ((Bel.rfl_ w3).al _)).cons (Hold.new hd))
  replace HB := Lib.hid (HB.out.al (.cells #[.slice B4 U2.kept.length f4, .slice C4 U2.written.length g4] 25))
  clear hd
  generalize hW : w3.alloc (.cells #[.slice B4 U2.kept.length f4, .slice C4 U2.written.length g4] 25) = W4 at *
  clear hW
  obtain ⟨ar, br, cr, dr, hBr, hDr⟩ := HA.out.get w.heap.size d (by simp)
  have qr0 := hBr.cell (i := 0) (v := .slice ar d.kept.length br) rfl
  have qr1 := hBr.cell (i := 1) (v := .slice cr d.written.length dr) rfl
  go_wp2_with fail
  refine (HFLUSH.out _ _ hDr).mono ?_
  rintro r w4 ⟨v4, rfl, hd, hb⟩
  replace HA := Lib.hid (HA.out.keep hb)
  replace HB := Lib.hid (HB.out.tr hb)
  clear hb hBr hDr qr0 qr1 HFLUSH
  obtain ⟨B5, f5, C5, g5, rfl, -, -⟩ := id hd
  go_upto_region 5 with fail
  have HLT5 : Hid (w3.heap.size < w4.heap.size) := Lib.hid (HA.out.get w3.heap.size U2 (by simp)).lt
  replace HA : Hid (Alls (w4.alloc (.cells #[.slice B5 U3.kept.length f5, .slice C5 U3.written.length g5] 25)) [(w4.heap.size, U3), (w3.heap.size, U2), (w1.heap.size, U1), (w.heap.size, d)]) := Lib.hid ((HA.out.keep ((Bel.rfl_ w4).al _)).cons (Hold.new hd))
  replace HB := Lib.hid (HB.out.al (.cells #[.slice B5 U3.kept.length f5, .slice C5 U3.written.length g5] 25))
  clear hd
  generalize hW : w4.alloc (.cells #[.slice B5 U3.kept.length f5, .slice C5 U3.written.length g5] 25) = W5 at *
  clear hW
  obtain ⟨ar, br, cr, dr, hBr, hDr⟩ := HA.out.get w.heap.size d (by simp)
  have qr0 := hBr.cell (i := 0) (v := .slice ar d.kept.length br) rfl
  have qr1 := hBr.cell (i := 1) (v := .slice cr d.written.length dr) rfl
  go_wp2_with fail
  refine (HCRASH.out _ _ hDr HB.out).mono ?_
  rintro r w5 ⟨v5, rfl, hd, hb⟩
  replace HA := Lib.hid (HA.out.keep hb)
  replace HB := Lib.hid (HB.out.tr hb)
  clear hb hBr hDr qr0 qr1 HCRASH
  obtain ⟨B6, f6, C6, g6, rfl, -, -⟩ := id hd
  go_upto_region 6 with fail
  have HLT6 : Hid (w4.heap.size < w5.heap.size) := Lib.hid (HA.out.get w4.heap.size U3 (by simp)).lt
  replace HA : Hid (Alls (w5.alloc (.cells #[.slice B6 U4.kept.length f6, .slice C6 U4.written.length g6] 25)) [(w5.heap.size, U4), (w4.heap.size, U3), (w3.heap.size, U2), (w1.heap.size, U1), (w.heap.size, d)]) := Lib.hid ((HA.out.keep ((Bel.rfl_ w5).al _)).cons (Hold.new hd))
  replace HB := Lib.hid (HB.out.al (.cells #[.slice B6 U4.kept.length f6, .slice C6 U4.written.length g6] 25))
  clear hd
  generalize hW : w5.alloc (.cells #[.slice B6 U4.kept.length f6, .slice C6 U4.written.length g6] 25) = W6 at *
  clear hW
  go_upto_region 8 with fail
  have HLT22 : Hid (w5.heap.size < W6.heap.size) := Lib.hid (HA.out.get w5.heap.size U4 (by simp)).lt
  replace HA : Hid (Alls (W6.alloc (.cells #[.slice none 0 0, .slice none 0 0] 25)) [(W6.heap.size, noDk), (w5.heap.size, U4), (w4.heap.size, U3), (w3.heap.size, U2), (w1.heap.size, U1), (w.heap.size, d)]) := Lib.hid ((HA.out.keep ((Bel.rfl_ W6).al _)).cons (Hold.zero _))
  replace HB := Lib.hid (HB.out.al (.cells #[.slice none 0 0, .slice none 0 0] 25))
  generalize hW : W6.alloc (.cells #[.slice none 0 0, .slice none 0 0] 25) = W8 at *
  clear hW
  obtain ⟨RB, hRB⟩ : ∃ b : Bool, b = (decide (sn < 1) || decide (600 < sn)) := ⟨_, rfl⟩
  have HRB := Lib.hid hRB
  clear hRB
  go_cut [64] (fun x wx => x = .bool RB ∧ wx = W8)
  case first =>
    as_aux_lemma =>
      go_wp2
      all_goals go_meet
      all_goals exact ⟨by first | (rw [HRB.out]; done) | (rw [HRB.out]; simp_all; done), rfl⟩
  case rest =>
  obtain ⟨rfl, rfl⟩ := hcut
  go_upto_if 64 with fail
  go_cut [21] (fun x wx => x = .int .i64 E1 ∧ Hid (Alls wx [(W6.heap.size, U1), (w5.heap.size, U4), (w4.heap.size, U3), (w3.heap.size, U2), (w1.heap.size, U1), (w.heap.size, d)]) ∧ Hid (Bel w wx))
  case first =>
    as_aux_lemma =>
      by_cases hr : 1 ≤ sn ∧ sn ≤ 600
      rotate_left
      · rw [if_neg hr] at HE1
        have hU : U1 = noDk := HU1.out (by rw [← HE1.out]; decide)
        have hd : (decide (sn < 1) || decide (600 < sn)) = true := by simp; omega
        rw [hd] at HRB
        have hRB := HRB.out
        subst hRB
        clear hr
        go_wp2
        go_meet
        subst hU
        exact ⟨by rw [← HE1.out], HA, HB⟩
      · rw [if_pos hr] at HE1
        have HND := Lib.hid (HND.out hr)
        have hd : (decide (sn < 1) || decide (600 < sn)) = false := by simp; omega
        rw [hd] at HRB
        have hRB := HRB.out
        subst hRB
        clear hr
        go_wp2_with fail
        refine (HND.out _).mono ?_
        rintro r w9 ⟨v9, rfl, hd, hb⟩
        replace HA := Lib.hid (HA.out.keep hb)
        replace HB := Lib.hid (HB.out.tr hb)
        obtain ⟨B9, f9, C9, g9, rfl, -, -⟩ := id hd
        obtain ⟨_, _, _, _, hz, -⟩ := HA.out.get W6.heap.size noDk (by simp)
        have d0 := hz.cell (i := 0) rfl
        have d1 := hz.cell (i := 1) rfl
        have e0 := hz.frozen 0
        have e1 := hz.frozen 1
        clear hz hb
        have HDD := Lib.hid hd
        clear hd
        go_wp2
        go_meet
        have z2 := HLT2.out
        have z4 := HLT4.out
        have z5 := HLT5.out
        have z6 := HLT6.out
        have z22 := HLT22.out
        exact ⟨by rw [← HE1.out], Lib.hid (HA.out.put (R := W6.heap.size) (e := noDk) (by simp) HDD.out _ (by intro p hp; simp only [List.mem_cons, List.not_mem_nil, or_false] at hp; rcases hp with rfl | rfl | rfl | rfl | rfl | rfl <;> first | exact .inl rfl | exact .inr ⟨by simp, by dsimp only; omega⟩)), Lib.hid ((HB.out.setCell (p := ⟨W6.heap.size, 0, none⟩) (by dsimp only; omega) _).setCell (p := ⟨W6.heap.size, 1, none⟩) (by dsimp only; omega) _)⟩
  case rest =>
  obtain ⟨rfl, HA2, HB2⟩ := hcut
  clear HA HB HND HE1 HU1 HRB
  have HA := HA2
  have HB := HB2
  clear HA2 HB2
  generalize wc = W11 at *
  obtain ⟨ar, br, cr, dr, hBr, hDr⟩ := HA.out.get w.heap.size d (by simp)
  have qr0 := hBr.cell (i := 0) (v := .slice ar d.kept.length br) rfl
  have qr1 := hBr.cell (i := 1) (v := .slice cr d.written.length dr) rfl
  go_wp2_with fail
  refine (HCD.out _ _ hDr).mono ?_
  rintro r w12 ⟨rfl, hb⟩
  replace HA := Lib.hid (HA.out.keep hb)
  replace HB := Lib.hid (HB.out.tr hb)
  clear hb hBr hDr qr0 qr1 HCD
  go_upto_region 13 with fail
  obtain ⟨NB, hNB⟩ : ∃ b : Bool, b = decide (E = 0 ∧ (n < 0 ∨ (d.kept.length : Int) ≤ n)) := ⟨_, rfl⟩
  have HNB := Lib.hid hNB
  clear hNB
  obtain ⟨ar, br, cr, dr, hBr, hDr⟩ := HA.out.get w.heap.size d (by simp)
  have qr0 := hBr.cell (i := 0) (v := .slice ar d.kept.length br) rfl
  have qr1 := hBr.cell (i := 1) (v := .slice cr d.written.length dr) rfl
  go_cut [82] (fun x wx => x = .bool NB ∧ Hid (Alls wx [(W6.heap.size, U1), (w5.heap.size, U4), (w4.heap.size, U3), (w3.heap.size, U2), (w1.heap.size, U1), (w.heap.size, d)]) ∧ Hid (Bel w wx))
  case first =>
    as_aux_lemma =>
      by_cases hE : E = 0
      · subst hE
        by_cases h1 : n < 0
        · rw [decide_eq_true (show (0 : Int) = 0 ∧ (n < 0 ∨ (d.kept.length : Int) ≤ n) from ⟨rfl, .inl h1⟩)] at HNB
          have e := HNB.out
          subst e
          go_wp2
          go_meet
          exact ⟨by first | (rfl; done) | (simp; done) | (simp; omega), HA, HB⟩
        · by_cases h2 : (d.kept.length : Int) ≤ n
          · rw [decide_eq_true (show (0 : Int) = 0 ∧ (n < 0 ∨ (d.kept.length : Int) ≤ n) from ⟨rfl, .inr h2⟩)] at HNB
            have e := HNB.out
            subst e
            go_wp2
            go_meet
            exact ⟨by first | (rfl; done) | (simp; done) | (simp; omega), HA, HB⟩
          · rw [decide_eq_false (show ¬ ((0 : Int) = 0 ∧ (n < 0 ∨ (d.kept.length : Int) ≤ n)) by omega)] at HNB
            have e := HNB.out
            subst e
            go_wp2
            go_meet
            exact ⟨by first | (rfl; done) | (simp; done) | (simp; omega), HA, HB⟩
      · rw [decide_eq_false (show ¬ (E = 0 ∧ (n < 0 ∨ (d.kept.length : Int) ≤ n)) from fun h => hE h.1)] at HNB
        have e := HNB.out
        subst e
        go_wp2
        go_meet
        exact ⟨by first | (rfl; done) | (simp; done) | (simp; omega), HA, HB⟩
  case rest =>
  obtain ⟨rfl, HA2, HB2⟩ := hcut
  clear HA HB
  have HA := HA2
  have HB := HB2
  clear HA2 HB2
  go_upto_if 82 with fail
  go_cut [24] (fun x wx => x = .int .i64 O ∧ Hid (Alls wx [(W6.heap.size, U1), (w5.heap.size, U4), (w4.heap.size, U3), (w3.heap.size, U2), (w1.heap.size, U1), (w.heap.size, d)]) ∧ Hid (Bel w wx))
  case first =>
    as_aux_lemma =>
      by_cases hN : E = 0 ∧ (n < 0 ∨ (d.kept.length : Int) ≤ n)
      · rw [decide_eq_true hN] at HNB
        have e := HNB.out
        subst e
        have hO := Lib.hid (show O = 5 by rw [← HO.out, if_pos hN.1, if_neg (by omega)])
        clear hN
        go_wp2
        go_meet
        exact ⟨by rw [hO.out], HA, HB⟩
      · rw [decide_eq_false hN] at HNB
        have e := HNB.out
        subst e
        have hO : Hid (O = E) := Lib.hid (by
          rw [← HO.out]
          by_cases hE : E = 0
          · rw [if_pos hE, if_pos (by omega), hE]
          · rw [if_neg hE])
        clear hN
        go_wp2
        go_meet
        exact ⟨by rw [hO.out], HA, HB⟩
  case rest =>
  obtain ⟨rfl, HA2, HB2⟩ := hcut
  clear HA HB
  have HA := HA2
  have HB := HB2
  clear HA2 HB2
  clear HNB HO hBr hDr qr0 qr1
  go_upto_region 16 with fail
  obtain ⟨MB, hMB⟩ : ∃ b : Bool, b = decide (O = 0 ∧ ¬ s.size = 32) := ⟨_, rfl⟩
  have HMB := Lib.hid hMB
  clear hMB
  obtain ⟨Z1, hZ1⟩ : ∃ z : Int, z = if O = 0 ∧ ¬ s.size = 32 then 1 else O := ⟨_, rfl⟩
  have HZ1 := Lib.hid hZ1
  clear hZ1
  go_cut [90] (fun x wx => x = .bool MB ∧ Hid (Alls wx [(W6.heap.size, U1), (w5.heap.size, U4), (w4.heap.size, U3), (w3.heap.size, U2), (w1.heap.size, U1), (w.heap.size, d)]) ∧ Hid (Bel w wx))
  case first =>
    as_aux_lemma =>
      by_cases hO : O = 0
      · subst hO
        by_cases h1 : s.size = 32
        · rw [decide_eq_false (show ¬ ((0 : Int) = 0 ∧ ¬ s.size = 32) from fun h => h.2 h1)] at HMB
          have e := HMB.out
          subst e
          go_wp2
          go_meet
          exact ⟨by first | (rfl; done) | (simp; done) | (simp; omega), HA, HB⟩
        · rw [decide_eq_true (show (0 : Int) = 0 ∧ ¬ s.size = 32 from ⟨rfl, h1⟩)] at HMB
          have e := HMB.out
          subst e
          have h33 : ((s.size : Int) != 32) = true := by simp; omega
          go_wp2
          go_meet
          exact ⟨by first | (rfl; done) | (simp; done) | (simp; omega), HA, HB⟩
      · rw [decide_eq_false (show ¬ (O = 0 ∧ ¬ s.size = 32) from fun h => hO h.1)] at HMB
        have e := HMB.out
        subst e
        go_wp2
        go_meet
        exact ⟨by first | (rfl; done) | (simp; done) | (simp; omega), HA, HB⟩
  case rest =>
  obtain ⟨rfl, HA2, HB2⟩ := hcut
  clear HA HB
  have HA := HA2
  have HB := HB2
  clear HA2 HB2
  go_upto_if 90 with fail
  go_cut [25] (fun x wx => x = .int .i64 Z1 ∧ Hid (Alls wx [(W6.heap.size, U1), (w5.heap.size, U4), (w4.heap.size, U3), (w3.heap.size, U2), (w1.heap.size, U1), (w.heap.size, d)]) ∧ Hid (Bel w wx))
  case first =>
    as_aux_lemma =>
      by_cases hN : O = 0 ∧ ¬ s.size = 32
      · rw [decide_eq_true hN] at HMB
        have e := HMB.out
        subst e
        rw [if_pos hN] at HZ1
        clear hN
        go_wp2
        go_meet
        exact ⟨by rw [HZ1.out], HA, HB⟩
      · rw [decide_eq_false hN] at HMB
        have e := HMB.out
        subst e
        rw [if_neg hN] at HZ1
        clear hN
        go_wp2
        go_meet
        exact ⟨by rw [HZ1.out], HA, HB⟩
  case rest =>
  obtain ⟨rfl, HA2, HB2⟩ := hcut
  clear HA HB
  have HA := HA2
  have HB := HB2
  clear HA2 HB2
  clear HMB
  go_upto_region 18 with fail
  obtain ⟨ar, br, cr, dr, hBr, hDr⟩ := HA.out.get w.heap.size d (by simp)
  have qr0 := hBr.cell (i := 0) (v := .slice ar d.kept.length br) rfl
  have qr1 := hBr.cell (i := 1) (v := .slice cr d.written.length dr) rfl
  obtain ⟨PB, hPB⟩ : ∃ b : Bool, b = decide (Z1 = 0 ∧ d.written.length = 600) := ⟨_, rfl⟩
  have HPB := Lib.hid hPB
  clear hPB
  go_cut [98] (fun x wx => x = .bool PB ∧ Hid (Alls wx [(W6.heap.size, U1), (w5.heap.size, U4), (w4.heap.size, U3), (w3.heap.size, U2), (w1.heap.size, U1), (w.heap.size, d)]) ∧ Hid (Bel w wx))
  case first =>
    as_aux_lemma =>
      by_cases hO : Z1 = 0
      · subst hO
        by_cases h1 : d.written.length = 600
        · rw [decide_eq_true (show (0 : Int) = 0 ∧ d.written.length = 600 from ⟨rfl, h1⟩)] at HPB
          have e := HPB.out
          subst e
          have h11 : ((d.written.length : Int) == 600) = true := by simp; omega
          clear h1
          go_wp2
          go_meet
          exact ⟨by first | (rfl; done) | (simp; done) | (simp; omega), HA, HB⟩
        · rw [decide_eq_false (show ¬ ((0 : Int) = 0 ∧ d.written.length = 600) from fun h => h1 h.2)] at HPB
          have e := HPB.out
          subst e
          have h11 : ((d.written.length : Int) == 600) = false := by simp; omega
          go_wp2
          go_meet
          exact ⟨by first | (rfl; done) | (simp; done) | (simp; omega), HA, HB⟩
      · rw [decide_eq_false (show ¬ (Z1 = 0 ∧ d.written.length = 600) from fun h => hO h.1)] at HPB
        have e := HPB.out
        subst e
        go_wp2
        go_meet
        exact ⟨by first | (rfl; done) | (simp; done) | (simp; omega), HA, HB⟩
  case rest =>
  obtain ⟨rfl, HA2, HB2⟩ := hcut
  clear HA HB
  have HA := HA2
  have HB := HB2
  clear HA2 HB2
  go_upto_if 98 with fail
  go_cut [25] (fun x wx => x = .int .i64 WE ∧ Hid (Alls wx [(W6.heap.size, U1), (w5.heap.size, U4), (w4.heap.size, U3), (w3.heap.size, U2), (w1.heap.size, U1), (w.heap.size, d)]) ∧ Hid (Bel w wx))
  case first =>
    as_aux_lemma =>
      have hWR := HWR.out
      by_cases hN : Z1 = 0 ∧ d.written.length = 600
      · rw [decide_eq_true hN] at HPB
        have e := HPB.out
        subst e
        have hz := HZ1.out
        have hW : Hid (WE = 2) := Lib.hid (by
          rw [hN.1] at hz
          by_cases h1 : O = 0 ∧ ¬ s.size = 32
          · rw [if_pos h1] at hz; cases hz
          · rw [if_neg h1] at hz
            rw [← hWR, if_pos hz.symm, if_pos (by omega), if_pos hN.2])
        clear hN hz hWR
        go_wp2
        go_meet
        exact ⟨by rw [hW.out], HA, HB⟩
      · rw [decide_eq_false hN] at HPB
        have e := HPB.out
        subst e
        have hz := HZ1.out
        have hW : Hid (WE = Z1) := Lib.hid (by
          rw [← hWR]
          by_cases h1 : O = 0 ∧ ¬ s.size = 32
          · rw [if_pos h1] at hz
            rw [if_pos h1.1, if_neg h1.2, hz]
          · rw [if_neg h1] at hz
            by_cases hO : O = 0
            · rw [if_pos hO, if_pos (by omega), if_neg (by omega), hz, hO]
            · rw [if_neg hO, hz])
        clear hN hz hWR
        go_wp2
        go_meet
        exact ⟨by rw [hW.out], HA, HB⟩
  case rest =>
  obtain ⟨rfl, HA2, HB2⟩ := hcut
  clear HA HB
  have HA := HA2
  have HB := HB2
  clear HA2 HB2
  clear HPB HZ1 HWR hBr hDr qr0 qr1
  go_upto_region 22 with fail
  have HLTz : Hid (W6.heap.size < wc.heap.size) := Lib.hid (HA.out.get W6.heap.size U1 (by simp)).lt
  have hz1 := Hold.zero wc
  have hz2 := Hold.zero (wc.alloc (.cells #[.slice none 0 0, .slice none 0 0] 25))
  have hz3 := Hold.zero ((wc.alloc (.cells #[.slice none 0 0, .slice none 0 0] 25)).alloc (.cells #[.slice none 0 0, .slice none 0 0] 25))
  simp only [World.size_alloc] at hz2 hz3
  replace HA := Lib.hid ((((((HA.out.keep ((Bel.rfl_ wc).al (.cells #[.slice none 0 0, .slice none 0 0] 25))).cons hz1).keep ((Bel.rfl_ _).al (.cells #[.slice none 0 0, .slice none 0 0] 25))).cons hz2).keep ((Bel.rfl_ _).al (.cells #[.slice none 0 0, .slice none 0 0] 25))).cons hz3)
  replace HB := Lib.hid (((HB.out.al (.cells #[.slice none 0 0, .slice none 0 0] 25)).al (.cells #[.slice none 0 0, .slice none 0 0] 25)).al (.cells #[.slice none 0 0, .slice none 0 0] 25))
  clear hz1 hz2 hz3
  generalize hT27 : wc.heap.size = T27 at *
  generalize hT28 : T27 + 1 = T28 at *
  generalize hT29 : T28 + 1 = T29 at *
  generalize hW12 : ((wc.alloc (.cells #[.slice none 0 0, .slice none 0 0] 25)).alloc (.cells #[.slice none 0 0, .slice none 0 0] 25)).alloc (.cells #[.slice none 0 0, .slice none 0 0] 25) = W12 at *
  clear hT27 hW12
  have HL28 := Lib.hid hT28
  have HL29 := Lib.hid hT29
  clear hT28 hT29
  go_upto_region 22 with fail
  obtain ⟨ar, br, cr, dr, hBr, hDr⟩ := HA.out.get w.heap.size d (by simp)
  have qr0 := hBr.cell (i := 0) (v := .slice ar d.kept.length br) rfl
  have qr1 := hBr.cell (i := 1) (v := .slice cr d.written.length dr) rfl
  go_upto_if 100 with fail
  go_cut [26] (fun x wx => x = .string RD ∧ Hid (Alls wx [(T29, noDk), (T28, noDk), (T27, noDk), (W6.heap.size, U1), (w5.heap.size, U4), (w4.heap.size, U3), (w3.heap.size, U2), (w1.heap.size, U1), (w.heap.size, d)]) ∧ Hid (Bel w wx))
  case first =>
    as_aux_lemma =>
      by_cases hO : O = 0
      · subst hO
        go_wp2_with fail
        refine (HRO.out (by first | trivial | rfl) _ _ hDr).mono ?_
        rintro r w9 ⟨rfl, hb⟩
        replace HA := Lib.hid (HA.out.keep hb)
        replace HB := Lib.hid (HB.out.tr hb)
        clear hb
        go_wp2
        go_meet
        exact ⟨rfl, HA, HB⟩
      · have hO' : (O == 0) = false := by simpa using hO
        have HR0 := Lib.hid (HRD.out hO)
        clear hO
        go_wp2
        go_meet
        exact ⟨by rw [HR0.out], HA, HB⟩
  case rest =>
  obtain ⟨rfl, HA2, HB2⟩ := hcut
  clear HA HB
  have HA := HA2
  have HB := HB2
  clear HA2 HB2
  clear HRO HRD hBr hDr qr0 qr1
  obtain ⟨ar, br, cr, dr, hBr, hDr⟩ := HA.out.get w.heap.size d (by simp)
  have qr0 := hBr.cell (i := 0) (v := .slice ar d.kept.length br) rfl
  have qr1 := hBr.cell (i := 1) (v := .slice cr d.written.length dr) rfl
  go_upto_if 105 with fail
  go_cut [] (fun wx => Hid (Alls wx [(T29, noDk), (T28, noDk), (T27, U2), (W6.heap.size, U1), (w5.heap.size, U4), (w4.heap.size, U3), (w3.heap.size, U2), (w1.heap.size, U1), (w.heap.size, d)]) ∧ Hid (Bel w wx))
  case first =>
    as_aux_lemma =>
      by_cases hO : WE = 0
      · subst hO
        go_wp2_with fail
        refine (HWO.out (by first | trivial | rfl) _ _ hDr).mono ?_
        rintro r w9 ⟨v9, rfl, hd, hb⟩
        replace HA := Lib.hid (HA.out.keep hb)
        replace HB := Lib.hid (HB.out.tr hb)
        obtain ⟨B9, f9, C9, g9, rfl, -, -⟩ := id hd
        obtain ⟨_, _, _, _, hz, -⟩ := HA.out.get T27 noDk (by simp)
        have d0 := hz.cell (i := 0) rfl
        have d1 := hz.cell (i := 1) rfl
        have e0 := hz.frozen 0
        have e1 := hz.frozen 1
        clear hz hb
        have HDD := Lib.hid hd
        clear hd
        go_wp2
        go_meet
        have z2 := HLT2.out
        have z4 := HLT4.out
        have z5 := HLT5.out
        have z6 := HLT6.out
        have z22 := HLT22.out
        have zz := HLTz.out
        have z28 := HL28.out
        have z29 := HL29.out
        exact ⟨Lib.hid (HA.out.put (R := T27) (e := noDk) (by simp) HDD.out _ (by intro p hp; simp only [List.mem_cons, List.not_mem_nil, or_false] at hp; rcases hp with rfl | rfl | rfl | rfl | rfl | rfl | rfl | rfl | rfl <;> first | exact .inl rfl | exact .inr ⟨by simp, by dsimp only; omega⟩)), Lib.hid ((HB.out.setCell (p := ⟨T27, 0, none⟩) (by dsimp only; omega) _).setCell (p := ⟨T27, 1, none⟩) (by dsimp only; omega) _)⟩
      · have hO' : (WE == 0) = false := by simpa using hO
        have hU := HU2.out hO
        clear hO
        go_wp2
        go_meet
        subst hU
        exact ⟨HA, HB⟩
  case rest =>
  obtain ⟨HA2, HB2⟩ := hcut
  clear HA HB
  have HA := HA2
  have HB := HB2
  clear HA2 HB2
  clear HWO HU2 hBr hDr qr0 qr1
  obtain ⟨ar, br, cr, dr, hBr, hDr⟩ := HA.out.get w.heap.size d (by simp)
  have qr0 := hBr.cell (i := 0) (v := .slice ar d.kept.length br) rfl
  have qr1 := hBr.cell (i := 1) (v := .slice cr d.written.length dr) rfl
  go_upto_if 111 with fail
  go_cut [] (fun wx => Hid (Alls wx [(T29, U4), (T28, U3), (T27, U2), (W6.heap.size, U1), (w5.heap.size, U4), (w4.heap.size, U3), (w3.heap.size, U2), (w1.heap.size, U1), (w.heap.size, d)]) ∧ Hid (Bel w wx))
  case first =>
    as_aux_lemma =>
      by_cases hO : E = 0
      · subst hO
        have hn1 : ¬ T28 = T29 := by have := HL29.out; omega
        have hn2 : ¬ T29 = T28 := fun h => hn1 h.symm
        have z2 := HLT2.out
        have z4 := HLT4.out
        have z5 := HLT5.out
        have z6 := HLT6.out
        have z22 := HLT22.out
        have zz := HLTz.out
        have z28 := HL28.out
        have z29 := HL29.out
        have hn3 : w.heap.size ≠ T28 := by omega
        have hn4 : w.heap.size ≠ T29 := by omega
        clear z2 z4 z5 z6 z22 zz z28 z29
        have HDr := Lib.hid (fun W (hb : Bel wc W) => hDr.keep hb)
        have HF0 := Lib.hid (fun W (hb : Bel wc W) => And.intro ((hBr.keep hb).cell (i := 0) (v := .slice ar d.kept.length br) rfl) ((hBr.keep hb).cell (i := 1) (v := .slice cr d.written.length dr) rfl))
        have HF1 := Lib.hid (fun W x y (hb : Bel wc W) => And.intro ((((hBr.keep hb).far2 hn3 0 x).far2 hn3 1 y).cell (i := 0) (v := .slice ar d.kept.length br) rfl) ((((hBr.keep hb).far2 hn3 0 x).far2 hn3 1 y).cell (i := 1) (v := .slice cr d.written.length dr) rfl))
        have HF2 := Lib.hid (fun W x y x' y' (hb : Bel wc W) => And.intro ((((((hBr.keep hb).far2 hn3 0 x).far2 hn3 1 y).far2 hn4 0 x').far2 hn4 1 y').cell (i := 0) (v := .slice ar d.kept.length br) rfl) ((((((hBr.keep hb).far2 hn3 0 x).far2 hn3 1 y).far2 hn4 0 x').far2 hn4 1 y').cell (i := 1) (v := .slice cr d.written.length dr) rfl))
        have HN3 := Lib.hid hn3
        have HN4 := Lib.hid hn4
        have hbW := Lib.hid (Bel.rfl_ wc)
        clear hBr hDr hn3 hn4 HI1 HI2 HI3 HI4 HCK HBEG HU3 HU4 hsl hl1 hl2
        generalize d.kept.length = dk at *
        generalize d.written.length = dw at *
        go_wp2_with fail
        have HCB : Hid (∀ (b : Bool) (kv' val : Value) (W : World), kv' = cond b (.slice none 0 0) (.slice A3 l.length c3) → DkV W d val → Bel w W → Calls Try.prog 17 #[val, kv', .bool b] W fun r w' => ∃ val', r = .returned val' ∧ DkV w' (cond b U3 U4) val' ∧ Bel W w') := Lib.hid (fun b kv' val W hkv h hb => by
          subst hkv
          cases b
          · exact HCO2.out (by first | trivial | rfl) val W h hb
          · exact HCO.out (by first | trivial | rfl) val W h)
        clear HCO HCO2
        go_region_held3 (fun w' => w'.cell? ⟨w.heap.size, 0, none⟩ = some (.slice ar dk br) ∧ w'.cell? ⟨w.heap.size, 1, none⟩ = some (.slice cr dw dr))
          (first
            | with_reducible exact HF0.out _ hbW.out
            | with_reducible exact HF0.out _ hbW.out.dr
            | with_reducible exact HF1.out _ _ _ hbW.out
            | with_reducible exact HF2.out _ _ _ _ _ hbW.out)
          (first
            | (go_at_call 17; refine (HCB.out _ _ _ _ rfl (HDr.out _ (by repeat (first | exact Bel.rfl_ _ | exact hbW.out | apply Bel.dr))) (HB.out.tr (by repeat (first | exact Bel.rfl_ _ | exact hbW.out | apply Bel.dr)))).mono ?_; rintro r wq ⟨vq, rfl, hdq, hbq⟩; have hbw : Bel wc wq := (by first | exact hbW.out.tr hbq | exact hbW.out.dr.tr hbq); have hbW := Lib.hid hbw; first
              | (have hd8 : DkV wq U3 vq := hdq; have HD8 := Lib.hid hd8; obtain ⟨B8, f8, C8, g8, rfl, -, -⟩ := hd8; clear hdq hbq hbw)
              | (have hd9 : DkV wq U4 vq := hdq; replace HD8 : Hid (DkV wq U3 _) := Lib.hid (HD8.out.keep (by first | exact hbq | exact (Bel.rfl_ _).dr.tr hbq)); have HD9 := Lib.hid hd9; obtain ⟨B9, f9, C9, g9, rfl, -, -⟩ := hd9; replace HA := Lib.hid (HA.out.keep hbw); clear hdq hbq hbw; obtain ⟨_, _, _, _, hz, -⟩ := HA.out.get T28 noDk (by simp); have d0 := hz.cell (i := 0) rfl; have d1 := hz.cell (i := 1) rfl; have e0 := hz.frozen 0; have e1 := hz.frozen 1; clear hz; obtain ⟨_, _, _, _, hz, -⟩ := HA.out.get T29 noDk (by simp); have y0 := hz.cell (i := 0) rfl; have y1 := hz.cell (i := 1) rfl; have x0 := hz.frozen 0; have x1 := hz.frozen 1; clear hz)))
        all_goals go_wp2
        all_goals go_meet
        have z2 := HLT2.out
        have z4 := HLT4.out
        have z5 := HLT5.out
        have z6 := HLT6.out
        have z22 := HLT22.out
        have zz := HLTz.out
        have z28 := HL28.out
        have z29 := HL29.out
        obtain ⟨_, _, _, _, hz, -⟩ := HA.out.get T28 noDk (by simp)
        have hbw := hbW.out.size
        have hbv := HB.out.size
        exact ⟨Lib.hid ((HA.out.put (R := T28) (e := noDk) (by simp) HD8.out [(T29, noDk), (T28, U3), (T27, U2), (W6.heap.size, U1), (w5.heap.size, U4), (w4.heap.size, U3), (w3.heap.size, U2), (w1.heap.size, U1), (w.heap.size, d)] (by intro p hp; simp only [List.mem_cons, List.not_mem_nil, or_false] at hp; rcases hp with rfl | rfl | rfl | rfl | rfl | rfl | rfl | rfl | rfl <;> first | exact .inl rfl | exact .inr ⟨by simp, by dsimp only; omega⟩)).put (R := T29) (e := noDk) (by simp) (HD9.out.aside hz _ _ _ _ _ _) _ (by intro p hp; simp only [List.mem_cons, List.not_mem_nil, or_false] at hp; rcases hp with rfl | rfl | rfl | rfl | rfl | rfl | rfl | rfl | rfl <;> first | exact .inl rfl | exact .inr ⟨by simp, by dsimp only; omega⟩)), Lib.hid (((((HB.out.tr hbW.out).setCell (p := ⟨T28, 0, none⟩) (by dsimp only; omega) _).setCell (p := ⟨T28, 1, none⟩) (by dsimp only; omega) _).setCell (p := ⟨T29, 0, none⟩) (by dsimp only; omega) _).setCell (p := ⟨T29, 1, none⟩) (by dsimp only; omega) _)⟩
      · have hO' : (E == 0) = false := by simpa using hO
        have hU3 := HU3.out hO
        have hU4 := HU4.out hO
        clear hO
        go_wp2
        go_meet
        subst hU3
        subst hU4
        exact ⟨HA, HB⟩
  case rest =>
  obtain ⟨HA2, HB2⟩ := hcut
  clear HA HB
  have HA := HA2
  have HB := HB2
  clear HA2 HB2
  clear HCO HCO2 HU3 HU4 hBr hDr qr0 qr1
  go_wp2_with fail
  refine (HBEG.out _).mono ?_
  rintro r w13 ⟨rfl, hb⟩
  replace HA := Lib.hid (HA.out.keep hb)
  replace HB := Lib.hid (HB.out.tr hb)
  clear hb
  obtain ⟨ar, br, cr, dr, hBr, hDr⟩ := HA.out.get w.heap.size d (by simp)
  have qr0 := hBr.cell (i := 0) (v := .slice ar d.kept.length br) rfl
  have qr1 := hBr.cell (i := 1) (v := .slice cr d.written.length dr) rfl
  go_wp2_with fail
  refine (HCK.out _ _ hDr).mono ?_
  rintro r w14 ⟨rfl, hb⟩
  replace HA := Lib.hid (HA.out.keep hb)
  replace HB := Lib.hid (HB.out.tr hb)
  clear hb hBr hDr qr0 qr1
  obtain ⟨ar, br, cr, dr, hBr, hDr⟩ := HA.out.get w1.heap.size U1 (by simp)
  have qr0 := hBr.cell (i := 0) (v := .slice ar U1.kept.length br) rfl
  have qr1 := hBr.cell (i := 1) (v := .slice cr U1.written.length dr) rfl
  obtain ⟨ak, bk, ck, dk, hBk, hDk⟩ := HA.out.get W6.heap.size U1 (by simp)
  have qk0 := hBk.cell (i := 0) (v := .slice ak U1.kept.length bk) rfl
  have qk1 := hBk.cell (i := 1) (v := .slice ck U1.written.length dk) rfl
  go_wp2_with fail
  refine (HI1.out _ _ _ hDr hDk).mono ?_
  rintro r w15 ⟨rfl, hb⟩
  replace HA := Lib.hid (HA.out.keep hb)
  replace HB := Lib.hid (HB.out.tr hb)
  clear hb hBr hDr hBk hDk qr0 qr1 qk0 qk1
  obtain ⟨ar, br, cr, dr, hBr, hDr⟩ := HA.out.get w3.heap.size U2 (by simp)
  have qr0 := hBr.cell (i := 0) (v := .slice ar U2.kept.length br) rfl
  have qr1 := hBr.cell (i := 1) (v := .slice cr U2.written.length dr) rfl
  obtain ⟨ak, bk, ck, dk, hBk, hDk⟩ := HA.out.get T27 U2 (by simp)
  have qk0 := hBk.cell (i := 0) (v := .slice ak U2.kept.length bk) rfl
  have qk1 := hBk.cell (i := 1) (v := .slice ck U2.written.length dk) rfl
  go_wp2_with fail
  refine (HI2.out _ _ _ hDr hDk).mono ?_
  rintro r w16 ⟨rfl, hb⟩
  replace HA := Lib.hid (HA.out.keep hb)
  replace HB := Lib.hid (HB.out.tr hb)
  clear hb hBr hDr hBk hDk qr0 qr1 qk0 qk1
  obtain ⟨ar, br, cr, dr, hBr, hDr⟩ := HA.out.get w4.heap.size U3 (by simp)
  have qr0 := hBr.cell (i := 0) (v := .slice ar U3.kept.length br) rfl
  have qr1 := hBr.cell (i := 1) (v := .slice cr U3.written.length dr) rfl
  obtain ⟨ak, bk, ck, dk, hBk, hDk⟩ := HA.out.get T28 U3 (by simp)
  have qk0 := hBk.cell (i := 0) (v := .slice ak U3.kept.length bk) rfl
  have qk1 := hBk.cell (i := 1) (v := .slice ck U3.written.length dk) rfl
  go_wp2_with fail
  refine (HI3.out _ _ _ hDr hDk).mono ?_
  rintro r w17 ⟨rfl, hb⟩
  replace HA := Lib.hid (HA.out.keep hb)
  replace HB := Lib.hid (HB.out.tr hb)
  clear hb hBr hDr hBk hDk qr0 qr1 qk0 qk1
  obtain ⟨ar, br, cr, dr, hBr, hDr⟩ := HA.out.get w5.heap.size U4 (by simp)
  have qr0 := hBr.cell (i := 0) (v := .slice ar U4.kept.length br) rfl
  have qr1 := hBr.cell (i := 1) (v := .slice cr U4.written.length dr) rfl
  obtain ⟨ak, bk, ck, dk, hBk, hDk⟩ := HA.out.get T29 U4 (by simp)
  have qk0 := hBk.cell (i := 0) (v := .slice ak U4.kept.length bk) rfl
  have qk1 := hBk.cell (i := 1) (v := .slice ck U4.written.length dk) rfl
  go_wp2_with fail
  refine (HI4.out _ _ _ hDr hDk).mono ?_
  rintro r w18 ⟨rfl, hb⟩
  replace HA := Lib.hid (HA.out.keep hb)
  replace HB := Lib.hid (HB.out.tr hb)
  clear hb hBr hDr hBk hDk qr0 qr1 qk0 qk1
  go_wp2
  go_ret
  exact ⟨rfl, HB.out⟩

end Go.Proofs.Ytkojeofegoljpaa
