/- TokenBack answers true: the walk. Each lemma states its own conditions. -/
import Derived.Test.YtegknpffiaeohaaTokM
namespace Go.Proofs.Ytegknpffiaeohaa
open Go.RowKit

theorem scan_small {t : ByteArray} (h : (scanOf t).2.2 = 0) : t.size ≤ maxLen := by
  by_cases h6 : 6000 < t.size
  · exfalso
    unfold scanOf at h
    rw [if_pos h6] at h
    exact absurd h (by decide)
  · simp only [maxLen]; omega

set_option maxRecDepth 20000 in
set_option maxHeartbeats 1000000 in
theorem tBack_any (v : Value) (l : List Tok) (s : ByteArray) (w : World) (h : Sl tokR w v l) (hl : l.length ≤ 4398046511104) (ht : ∀ t ∈ l, t.text.size ≤ maxLen) (hm : s.size ≤ maxLen) :
    Calls Try.prog 5 #[v, .string s] w fun r w' => r = .returned (.bool true) ∧ Bel w w' := by
  have HJ := Lib.hid (fun W (h : Sl tokR W v l) => join_any v l W h hl ht)
  have HJS := Lib.hid (fun t (h : joinOf l = (t, 0)) => join_scan h)
  have HSS := Lib.hid (fun W => scan_any s W hm)
  have HN := Lib.hid (scanOf_none (s := s))
  have HSJ := Lib.hid (fun l a (h : scanOf s = (l, a, 0)) => scan_join h)
  have HST := Lib.hid (fun l a (h : scanOf s = (l, a, 0)) => scanOf_toks h)
  have HLL := Lib.hid (scanOf_len s)
  unfold ScanRes at HSS
  have H := Lib.hid h; clear h
  generalize joinOf l = J at HJ HJS
  generalize scanOf s = R at HSS HN HSJ HST HLL
  obtain ⟨t, e⟩ := J
  obtain ⟨L, a, f⟩ := R
  have hLL : L.length ≤ 6000 := HLL.out
  by_cases he : e = 0
  · subst he
    obtain ⟨m, hms, hsm⟩ := HJS.out t rfl
    have HT := Lib.hid (fun W => scan_any t W (scan_small (by rw [hms])))
    have hml := scanOf_len t
    unfold ScanRes at HT
    rw [hms] at HT hml
    simp only at hml
    clear hms HJS HLL hm ht
    go_enter Try.func5, Try.ntmps5
    go_wp2_with fail
    refine (tokenBegun_any _).mono ?_
    rintro e0 w0 ⟨rfl, hb0⟩
    have HB0 := Lib.hid hb0; have H0 := Lib.hid (H.out.keep hb0); clear hb0
    go_wp2_with fail
    refine (HJ.out _ H0.out).mono ?_
    rintro e1 w1 ⟨rfl, hb1⟩
    have HB1 := Lib.hid (HB0.out.tr hb1); have H1 := Lib.hid (H0.out.keep hb1); clear hb1
    go_wp2_with fail
    refine (HT.out _).mono ?_
    rintro e2 w2 ⟨v2, rfl, hs2, hb2⟩
    have HB2 := Lib.hid (HB1.out.tr hb2); have H2 := Lib.hid (H1.out.keep hb2); have HS2 := Lib.hid hs2; clear hb2 hs2
    go_wp2_with fail
    refine (sameToks_any v v2 l m false _ H2.out HS2.out (by unfold ok64; omega) (by unfold ok64; omega)).mono ?_
    rintro e3 w3 ⟨rfl, hb3⟩
    rw [hsm]
    have HB1 := Lib.hid (HB2.out.tr hb3); clear hb3 HB2 H2 HS2 H1
    by_cases hf : f = 0
    · subst hf
      obtain ⟨hs6, htk, _⟩ := HST.out L a rfl
      have hall := toks_all hs6 L 0 htk
      have hsz : ∀ x ∈ L, x.text.size ≤ maxLen := fun x hx => by
        have h1 := List.all_eq_true.1 hall x hx
        have h2 := (isTok_iff.1 h1).1
        simp only [maxLen]; omega
      have HJ2 := Lib.hid (fun W v (h : Sl tokR W v L) => join_any v L W h (by omega) hsz)
      have HJS2 := Lib.hid (fun t (h : joinOf L = (t, 0)) => join_scan h)
      have hj2 : (joinOf L).2 = 0 ∨ (joinOf L).2 = 2 := HSJ.out L a rfl
      clear hsz hall htk hs6 HSJ HST HN
      generalize joinOf L = J2 at HJ2 HJS2 hj2
      obtain ⟨t2, e2⟩ := J2
      rcases hj2 with hj2 | hj2
      · obtain rfl : e2 = 0 := hj2
        obtain ⟨m2, hm2, hsm2⟩ := HJS2.out t2 rfl
        have HT2 := Lib.hid (fun W => scan_any t2 W (scan_small (by rw [hm2])))
        have hml2 := scanOf_len t2
        unfold ScanRes at HT2
        rw [hm2] at HT2 hml2
        simp only at hml2
        clear hm2 HJS2
        go_wp2_with fail
        refine (HSS.out _).mono ?_
        rintro e4 w4 ⟨v4, rfl, hs4, hb4⟩
        have HB4 := Lib.hid (HB1.out.tr hb4); have HS4 := Lib.hid hs4; clear hb4
        clear hs4
        go_wp2_with fail
        refine (HJ2.out _ _ HS4.out).mono ?_
        rintro e5 w5 ⟨rfl, hb5⟩
        have HB5 := Lib.hid (HB4.out.tr hb5); have HS5 := Lib.hid (HS4.out.keep hb5); clear hb5
        go_wp2_with fail
        refine (HT2.out _).mono ?_
        rintro e6 w6 ⟨v6, rfl, hs6, hb6⟩
        have HB6 := Lib.hid (HB5.out.tr hb6); have HS6 := Lib.hid hs6; have HS5 := Lib.hid (HS5.out.keep hb6); clear hb6 hs6
        go_wp2_with fail
        refine (sameToks_any v4 v6 L m2 false _ HS5.out HS6.out (by unfold ok64; omega) (by unfold ok64; omega)).mono ?_
        rintro e7 w7 ⟨rfl, hb7⟩
        rw [hsm2]
        have HB7 := Lib.hid (HB6.out.tr hb7); clear hb7
        go_wp2
        go_ret
        exact ⟨ret_bool (by simp), HB7.out⟩
      · obtain rfl : e2 = 2 := hj2
        clear HJS2
        go_wp2_with fail
        refine (HSS.out _).mono ?_
        rintro e4 w4 ⟨v4, rfl, hs4, hb4⟩
        have HB4 := Lib.hid (HB1.out.tr hb4); have HS4 := Lib.hid hs4; clear hb4
        clear hs4
        go_wp2_with fail
        refine (HJ2.out _ _ HS4.out).mono ?_
        rintro e5 w5 ⟨rfl, hb5⟩
        have HB5 := Lib.hid (HB4.out.tr hb5); clear hb5
        go_wp2
        go_ret
        exact ⟨ret_bool (by simp), HB5.out⟩
    · have hd : (f != 0) = true := by simpa using hf
      have hz : L = [] := HN.out hf
      subst hz
      have HF := Lib.hid hf
      clear hf HSJ HST HN
      go_wp2_with fail
      refine (HSS.out _).mono ?_
      rintro e4 w4 ⟨v4, rfl, hs4, hb4⟩
      have HB4 := Lib.hid (HB1.out.tr hb4); have HS4 := Lib.hid hs4; clear hb4
      obtain ⟨A, c, rfl, hc, hmm, hA⟩ := hs4
      clear hA HS4
      have hl0 : ([] : List Tok).length = 0 := rfl
      go_wp2
      go_ret
      exact ⟨ret_bool (by simp), HB4.out⟩
  · have hde : (e == 0) = false := by simpa using he
    have HEE := Lib.hid he
    clear he HJS HLL hm ht
    go_enter Try.func5, Try.ntmps5
    go_wp2_with fail
    refine (tokenBegun_any _).mono ?_
    rintro e0 w0 ⟨rfl, hb0⟩
    have HB0 := Lib.hid hb0; have H0 := Lib.hid (H.out.keep hb0); clear hb0
    go_wp2_with fail
    refine (HJ.out _ H0.out).mono ?_
    rintro e1 w1 ⟨rfl, hb1⟩
    have HB1 := Lib.hid (HB0.out.tr hb1); have H1 := Lib.hid (H0.out.keep hb1); clear hb1
    by_cases hf : f = 0
    · subst hf
      obtain ⟨hs6, htk, _⟩ := HST.out L a rfl
      have hall := toks_all hs6 L 0 htk
      have hsz : ∀ x ∈ L, x.text.size ≤ maxLen := fun x hx => by
        have h1 := List.all_eq_true.1 hall x hx
        have h2 := (isTok_iff.1 h1).1
        simp only [maxLen]; omega
      have HJ2 := Lib.hid (fun W v (h : Sl tokR W v L) => join_any v L W h (by omega) hsz)
      have HJS2 := Lib.hid (fun t (h : joinOf L = (t, 0)) => join_scan h)
      have hj2 : (joinOf L).2 = 0 ∨ (joinOf L).2 = 2 := HSJ.out L a rfl
      clear hsz hall htk hs6 HSJ HST HN
      generalize joinOf L = J2 at HJ2 HJS2 hj2
      obtain ⟨t2, e2⟩ := J2
      rcases hj2 with hj2 | hj2
      · obtain rfl : e2 = 0 := hj2
        obtain ⟨m2, hm2, hsm2⟩ := HJS2.out t2 rfl
        have HT2 := Lib.hid (fun W => scan_any t2 W (scan_small (by rw [hm2])))
        have hml2 := scanOf_len t2
        unfold ScanRes at HT2
        rw [hm2] at HT2 hml2
        simp only at hml2
        clear hm2 HJS2
        go_wp2_with fail
        refine (HSS.out _).mono ?_
        rintro e4 w4 ⟨v4, rfl, hs4, hb4⟩
        have HB4 := Lib.hid (HB1.out.tr hb4); have HS4 := Lib.hid hs4; clear hb4
        clear hs4
        go_wp2_with fail
        refine (HJ2.out _ _ HS4.out).mono ?_
        rintro e5 w5 ⟨rfl, hb5⟩
        have HB5 := Lib.hid (HB4.out.tr hb5); have HS5 := Lib.hid (HS4.out.keep hb5); clear hb5
        go_wp2_with fail
        refine (HT2.out _).mono ?_
        rintro e6 w6 ⟨v6, rfl, hs6, hb6⟩
        have HB6 := Lib.hid (HB5.out.tr hb6); have HS6 := Lib.hid hs6; have HS5 := Lib.hid (HS5.out.keep hb6); clear hb6 hs6
        go_wp2_with fail
        refine (sameToks_any v4 v6 L m2 false _ HS5.out HS6.out (by unfold ok64; omega) (by unfold ok64; omega)).mono ?_
        rintro e7 w7 ⟨rfl, hb7⟩
        rw [hsm2]
        have HB7 := Lib.hid (HB6.out.tr hb7); clear hb7
        go_wp2
        go_ret
        exact ⟨ret_bool (by simp), HB7.out⟩
      · obtain rfl : e2 = 2 := hj2
        clear HJS2
        go_wp2_with fail
        refine (HSS.out _).mono ?_
        rintro e4 w4 ⟨v4, rfl, hs4, hb4⟩
        have HB4 := Lib.hid (HB1.out.tr hb4); have HS4 := Lib.hid hs4; clear hb4
        clear hs4
        go_wp2_with fail
        refine (HJ2.out _ _ HS4.out).mono ?_
        rintro e5 w5 ⟨rfl, hb5⟩
        have HB5 := Lib.hid (HB4.out.tr hb5); clear hb5
        go_wp2
        go_ret
        exact ⟨ret_bool (by simp), HB5.out⟩
    · have hd : (f != 0) = true := by simpa using hf
      have hz : L = [] := HN.out hf
      subst hz
      have HF := Lib.hid hf
      clear hf HSJ HST HN
      go_wp2_with fail
      refine (HSS.out _).mono ?_
      rintro e4 w4 ⟨v4, rfl, hs4, hb4⟩
      have HB4 := Lib.hid (HB1.out.tr hb4); have HS4 := Lib.hid hs4; clear hb4
      obtain ⟨A, c, rfl, hc, hmm, hA⟩ := hs4
      clear hA HS4
      have hl0 : ([] : List Tok).length = 0 := rfl
      go_wp2
      go_ret
      exact ⟨ret_bool (by simp), HB4.out⟩

end Go.Proofs.Ytegknpffiaeohaa
