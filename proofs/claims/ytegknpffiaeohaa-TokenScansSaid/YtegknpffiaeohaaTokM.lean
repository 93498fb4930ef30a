/- What must be of tokens in any case. No conditions. -/
import Derived.Test.YtegknpffiaeohaaTokK
namespace Go.Proofs.Ytegknpffiaeohaa
open Go.RowKit

def litT : ByteArray := ⟨#[97, 98, 32, 61, 61, 32, 55, 59, 35, 120]⟩
def litJ : ByteArray := ⟨#[97, 98, 32, 61, 61, 32, 55, 32, 59]⟩
def litL : List Tok := [⟨1, 0, ⟨#[97, 98]⟩⟩, ⟨3, 3, ⟨#[61, 61]⟩⟩, ⟨2, 6, ⟨#[55]⟩⟩, ⟨3, 7, ⟨#[59]⟩⟩]
theorem litT_scan : scanOf litT = (litL, 0, 0) := by decide +kernel
theorem litL_join : joinOf litL = (litJ, 0) := by decide +kernel

set_option maxRecDepth 20000 in
theorem tokenBegun_any (w : World) : Calls Try.prog 11 #[] w fun r w' => r = .returned (.bool true) ∧ Bel w w' := by
  have HS := Lib.hid (fun W => scan_any litT W (by simp only [maxLen]; decide))
  unfold ScanRes at HS
  rw [litT_scan] at HS
  have HJ := Lib.hid (fun W v (h : Sl tokR W v litL) => join_any v litL W h (by decide) (by decide))
  rw [litL_join] at HJ
  have hL : litL.length = 4 := rfl
  have d1 := str_true (show litJ = ⟨#[97, 98, 32, 61, 61, 32, 55, 32, 59]⟩ from rfl)
  go_enter Try.func11, Try.ntmps11
  go_wp2_with fail
  refine (HS.out _).mono ?_
  rintro e w1 ⟨v, rfl, hs1, hb1⟩
  have HB1 := Lib.hid hb1
  have HS1 := Lib.hid hs1
  clear hb1
  obtain ⟨A, c, rfl, hc, hm, hA⟩ := hs1
  obtain ⟨ab, ao, rfl, hA2⟩ := hA (by decide)
  have HX := Lib.hid (tokR.cells (k := 1) (x := ⟨3, 3, ⟨#[61, 61]⟩⟩) hA2 rfl)
  clear hA hA2
  go_wp2_with fail
  refine (HJ.out _ _ HS1.out).mono ?_
  rintro e w2 ⟨rfl, hb2⟩
  have HB2 := Lib.hid (HB1.out.tr hb2)
  obtain ⟨x0, x1, x2⟩ := TokAtC.keep hb2 HX.out
  clear hb2
  rw [Nat.one_mul] at x0 x1 x2
  go_wp2
  go_ret
  exact ⟨ret_bool (by rw [toList_data]; rfl), HB2.out⟩

theorem scanG_len (s : ByteArray) : ∀ (n i : Nat) (note : Bool) (acc : List Tok), s.size - i = n → (scanG s i note acc).1.length ≤ acc.length + n
  | n, i, note, acc, hn => by
    by_cases hi : i < s.size
    · cases h1 : (note || s[i].toNat == 35) with
      | true => rw [scanG_note hi h1]; have := scanG_len s (n - 1) (i + 1) (s[i].toNat != 10) acc (by omega); omega
      | false =>
        cases h2 : isBl s[i].toNat with
        | true => rw [scanG_bl hi h1 h2]; have := scanG_len s (n - 1) (i + 1) false acc (by omega); omega
        | false =>
          by_cases h0 : tokErr s i = 0
          · rw [scanG_tok hi h1 h2 h0]
            have hp := tokAt_pos (tokErr_kind h0)
            have := scanG_len s (n - (tokAt s i).2) (i + (tokAt s i).2) false (acc ++ [tokHere s i]) (by omega)
            rw [List.length_append, List.length_singleton] at this
            omega
          · rw [scanG_err hi h1 h2 h0]; exact Nat.zero_le _
    · rw [scanG_end hi]; exact Nat.le_add_right _ _
termination_by n => n
theorem scanOf_len (s : ByteArray) : (scanOf s).1.length ≤ 6000 := by
  unfold scanOf
  by_cases hs : 6000 < s.size
  · rw [if_pos hs]; exact Nat.zero_le _
  · rw [if_neg hs]
    have := scanG_len s _ 0 false [] rfl
    simp only [List.length_nil] at this
    omega
theorem sameToks_self (b : Bool) (l : List Tok) : sameToks b l l = true := decide_eq_true rfl

theorem tScans_any (s : ByteArray) (w : World) (hm : s.size ≤ maxLen) : Calls Try.prog 3 #[.string s] w fun r w' => r = .returned (.bool true) ∧ Bel w w' := by
  have HS := Lib.hid (fun W => scan_any s W hm)
  have HR := Lib.hid (fun W => scanOf_ref s W hm)
  unfold ScanRes at HS HR
  have HL := Lib.hid (scanOf_len s)
  generalize scanOf s = R at HS HR HL
  obtain ⟨L, a, e⟩ := R
  go_enter Try.func3, Try.ntmps3
  go_wp2_with fail
  refine (HS.out _).mono ?_
  rintro e1 w1 ⟨v1, rfl, hs1, hb1⟩
  have HB1 := Lib.hid hb1; have HS1 := Lib.hid hs1; clear hb1 hs1
  go_wp2_with fail
  refine (HR.out _).mono ?_
  rintro e2 w2 ⟨v2, rfl, hs2, hb2⟩
  have HB2 := Lib.hid (HB1.out.tr hb2); have HS2 := Lib.hid hs2; have HS1 := Lib.hid (HS1.out.keep hb2); clear hb2 hs2
  go_wp2_with fail
  refine (tokenBegun_any _).mono ?_
  rintro e3 w3 ⟨rfl, hb3⟩
  have HB3 := Lib.hid (HB2.out.tr hb3); have HS2 := Lib.hid (HS2.out.keep hb3); have HS1 := Lib.hid (HS1.out.keep hb3); clear hb3
  go_wp2_with fail
  refine (sameToks_any v1 v2 L L true _ HS1.out HS2.out (by have := HL.out; unfold ok64; omega) (by have := HL.out; unfold ok64; omega)).mono ?_
  rintro e4 w4 ⟨rfl, hb4⟩
  rw [sameToks_self]
  have HB4 := Lib.hid (HB3.out.tr hb4); clear hb4
  go_wp2
  go_ret
  exact ⟨ret_bool (by simp), HB4.out⟩

theorem tJoins_any (v : Value) (l : List Tok) (w : World) (h : Sl tokR w v l) (hl : l.length ≤ 4398046511104) (ht : ∀ t ∈ l, t.text.size ≤ maxLen) : Calls Try.prog 4 #[v] w fun r w' => r = .returned (.bool true) ∧ Bel w w' := by
  have HS := Lib.hid (fun W (h : Sl tokR W v l) => join_any v l W h hl ht)
  have HR := Lib.hid (fun W (h : Sl tokR W v l) => joinOf_ref v l W h hl ht)
  generalize joinOf l = R at HS HR
  obtain ⟨x, e⟩ := R
  have H := Lib.hid h; clear h
  go_enter Try.func4, Try.ntmps4
  go_wp2_with fail
  refine (HS.out _ H.out).mono ?_
  rintro e1 w1 ⟨rfl, hb1⟩
  have HB1 := Lib.hid hb1; have H1 := Lib.hid (H.out.keep hb1); clear hb1
  go_wp2_with fail
  refine (HR.out _ H1.out).mono ?_
  rintro e2 w2 ⟨rfl, hb2⟩
  have HB2 := Lib.hid (HB1.out.tr hb2); clear hb2
  go_wp2_with fail
  refine (tokenBegun_any _).mono ?_
  rintro e3 w3 ⟨rfl, hb3⟩
  have HB3 := Lib.hid (HB2.out.tr hb3); clear hb3
  go_wp2
  go_ret
  exact ⟨ret_bool (by simp), HB3.out⟩

set_option maxRecDepth 20000 in
set_option maxHeartbeats 1000000 in
theorem tPlaces_any (s : ByteArray) (w : World) (hm : s.size ≤ maxLen) : Calls Try.prog 6 #[.string s] w fun r w' => r = .returned (.bool true) ∧ Bel w w' := by
  have HS := Lib.hid (fun W => scan_any s W hm)
  have HK := Lib.hid (fun l a (h : scanOf s = (l, a, 0)) => scanOf_toks h)
  have HN := Lib.hid (scanOf_none (s := s))
  have HL := Lib.hid (scanOf_len s)
  unfold ScanRes at HS
  generalize scanOf s = R at HS HK HN HL
  obtain ⟨L, a, e⟩ := R
  clear hm
  go_enter Try.func6, Try.ntmps6
  go_wp2_with fail
  refine (HS.out _).mono ?_
  rintro e1 w1 ⟨v1, rfl, hs1, hb1⟩
  have HB1 := Lib.hid hb1; have HS1 := Lib.hid hs1; clear hb1 hs1 HS
  go_wp2_with fail
  refine (tokenBegun_any _).mono ?_
  rintro e3 w2 ⟨rfl, hb3⟩
  have HB2 := Lib.hid (HB1.out.tr hb3); have HS2 := Lib.hid (HS1.out.keep hb3); clear hb3 HS1 HB1
  obtain ⟨A, c, rfl, hc, hmm, hA⟩ := HS2.out
  by_cases he : e = 0
  · subst he
    obtain ⟨hs6, htk, _⟩ := HK.out L a rfl
    have HTK := Lib.hid htk
    have hl6 : L.length ≤ 6000 := HL.out
    have HA := Lib.hid hA
    clear hA htk HK HN HL HS2
    go_wp2
    go_loopw [6, 7] (fun u i wr => ∃ k p : Nat, i = .int .i64 k ∧ u = .int .i64 p ∧ k ≤ L.length ∧ p ≤ s.size ∧ Hid (Toks s p (L.drop k)) ∧ Hid (Bel w2 wr)) (fun _ i _ => L.length - (intOf i).toNat)
    case atStart => exact ⟨0, 0, rfl, rfl, by omega, by omega, HTK, Bel.rfl_ _⟩
    case round =>
      obtain ⟨k, p, rfl, rfl, hk, hp, HT, HB⟩ := hrel
      clear HTK
      by_cases hlt : k < L.length
      · obtain ⟨t, he⟩ : ∃ t, L[k]? = some t := ⟨_, List.getElem?_eq_getElem hlt⟩
        have ht2 := HT.out
        have hdr : L.drop k = t :: L.drop (k + 1) := by
          rw [List.drop_eq_getElem_cons hlt]
          rw [List.getElem?_eq_getElem hlt] at he
          rw [Option.some.inj he]
        rw [hdr] at ht2
        obtain ⟨j, hpj, hej, htj, htt⟩ := ht2
        have hpos := tokAt_pos (tokErr_kind hej)
        obtain ⟨n, hn⟩ : ∃ n, (tokAt s j).2 = n := ⟨_, rfl⟩
        have htx : t.text = s.extract j (j + n) := by rw [htj, ← hn]; rfl
        have hta : t.at_ = j := by rw [htj]; rfl
        rw [hn] at hpos htt
        have hxs : (s.extract j (j + n)).size = n := by rw [extract_size hpos.2]; omega
        have HTT := Lib.hid htt
        obtain ⟨ab, ao, rfl, hA⟩ := HA.out (by omega)
        obtain ⟨x0, x1, x2⟩ := TokAtC.keep HB.out (tokR.cells hA he)
        rw [htx] at x2
        rw [hta] at x1
        obtain ⟨hn0, hjn⟩ := hpos
        have d1 : decide (j < p) = false := decide_eq_false (by omega)
        have d2 : ((n : Int) == 0) = false := by simp; omega
        have d3 : decide (s.size < j) = false := decide_eq_false (by omega)
        have d4 : decide ((s.size : Int) - (j : Int) < (n : Int)) = false := decide_eq_false (by omega)
        clear hA HA x0 htt htx hta htj hej hn hdr he HT
        go_wp2
        go_quiet (fail)
        go_wp2
        go_roundw
        case rel => exact ⟨k + 1, j + n, by go_num, by go_num, by omega, by omega, HTT, HB.out.drN _⟩
        case measure => simp [intOf]; omega
      · go_wp2
        go_ret
        exact ⟨rfl, HB2.out.tr HB.out⟩
  · have hd : (e != 0) = true := by simpa using he
    have hz : L = [] := HN.out he
    subst hz
    have he' := Lib.hid he
    clear he hA
    have hl0 : ([] : List Tok).length = 0 := rfl
    go_wp2
    go_ret
    exact ⟨ret_bool (by simp), HB2.out⟩

end Go.Proofs.Ytegknpffiaeohaa
