/- The document's scanning computes what is scanned. The document's IsToken and JoinOf compute what they should. The document's JoinOf computes what is joined. Each lemma states its own conditions. -/
import Derived.Test.YtegknpffiaeohaaDoorTokL
namespace Go.Proofs.YtegknpffiaeohaaDoor
open Go.RowKit

theorem tokAt_kind (s : ByteArray) (i : Nat) : (tokAt s i).1 = 0 ∨ (tokAt s i).1 = 1 ∨ (tokAt s i).1 = 2 ∨ (tokAt s i).1 = 3 := by
  rw [tokAt_bt]
  by_cases h1 : isL (bt s i) = true
  · rw [if_pos h1]; exact .inr (.inl rfl)
  · rw [if_neg h1]
    by_cases h1 : isD (bt s i) = true
    · rw [if_pos h1]; exact .inr (.inr (.inl rfl))
    · rw [if_neg h1]
      by_cases h1 : bt s i = 61 ∧ bt s (i + 1) = 61
      · rw [if_pos h1]; exact .inr (.inr (.inr rfl))
      · rw [if_neg h1]
        by_cases h1 : isS (bt s i) = true
        · rw [if_pos h1]; exact .inr (.inr (.inr rfl))
        · rw [if_neg h1]; exact .inl rfl
theorem tokenAt_kn (s : ByteArray) (i n : Nat) (k : Int) (w : World) (hs : ok64 s.size) (hi : i < s.size) (hk : ((tokAt s i).1 : Int) = k) (hn : (tokAt s i).2 = n) :
    Calls Tryd.prog 48 #[.string s, .int .i64 i] w fun r w' => r = .returned (.tuple #[.int .i64 k, .int .i64 n]) ∧ w = w' :=
  (tokenAt_ref s i w hs hi).mono fun r w' ⟨h1, h2⟩ => by
    unfold TokRes at h1
    rw [hk, hn] at h1
    exact ⟨h1, h2⟩
theorem elTok : Elem Tryd.prog 52 75 3 32 := Elem.mk_ (z := .agg #[.int .i64 0, .int .i64 0, .string emp]) Tryd.underlying52 (by kernel_rfl) rfl (by decide)
theorem flat_snoc (acc : List Tok) (t : Tok) : (acc ++ [t]).flatMap Tok.cells = acc.flatMap Tok.cells ++ [.int .i64 t.kind, .int .i64 t.at_, .string t.text] := by
  rw [List.flatMap_append, List.flatMap_cons, List.flatMap_nil, List.append_nil]; rfl
theorem tokHere_kn {s : ByteArray} {i n : Nat} {k : Int} (hk : ((tokAt s i).1 : Int) = k) (hn : (tokAt s i).2 = n) : tokHere s i = ⟨k, i, s.extract i (i + n)⟩ := by
  unfold tokHere
  rw [hk, hn]
theorem scanG_tok' {s : ByteArray} {i n : Nat} {k : Int} {acc : List Tok} (h : i < s.size) (h35 : s[i].toNat ≠ 35) (hb : isBl s[i].toNat = false) (hk : ((tokAt s i).1 : Int) = k) (hn : (tokAt s i).2 = n) (h0 : tokErr s i = 0) :
    scanG s i false acc = scanG s (i + n) false (acc ++ [⟨k, i, s.extract i (i + n)⟩]) := by
  rw [scanG_tok h (by simp [h35]) hb h0, tokHere_kn hk hn, hn]
theorem scanG_err' {s : ByteArray} {i : Nat} {acc : List Tok} {e : Int} (h : i < s.size) (h35 : s[i].toNat ≠ 35) (hb : isBl s[i].toNat = false) (h0 : tokErr s i = e) (he : e ≠ 0) :
    scanG s i false acc = ([], (i : Int), e) := by
  rw [scanG_err h (by simp [h35]) hb (by rw [h0]; exact he), h0]

def ScanRes (s : ByteArray) (w : World) (r : Ending) (w' : World) : Prop := ∃ v, r = .returned (.tuple #[v, .int .i64 (scanOf s).2.1, .int .i64 (scanOf s).2.2]) ∧ Sl tokR w' v (scanOf s).1 ∧ Bel w w'

set_option maxRecDepth 20000 in
set_option maxHeartbeats 1000000 in
theorem scanOf_ref (s : ByteArray) (w : World) (_hm : s.size ≤ maxLen) :
    Calls Tryd.prog 33 #[.string s] w fun r w' => ScanRes s w r w' := by
  by_cases hs : 6000 < s.size
  · have HR : Hid (scanOf s = ([], 0, 2)) := Lib.hid (by unfold scanOf; rw [if_pos hs])
    go_enter Tryd.func33, Tryd.ntmps33
    go_wp2
    go_ret3
    exact ⟨_, by rw [HR.out]; rfl, by rw [HR.out]; exact Sl.nil_ _ _, Bel.rfl_ w⟩
  · have HR : Hid (scanOf s = scanG s 0 false []) := Lib.hid (by unfold scanOf; rw [if_neg hs])
    clear _hm
    go_enter Tryd.func33, Tryd.ntmps33
    go_wp2
    go_loopw [5, 6, 7] (fun v b p wr => ∃ (i : Nat) (note : Bool) (acc : List Tok), p = .int .i64 i ∧ b = .bool note ∧ i ≤ s.size ∧ acc.length ≤ i ∧ Hid (scanG s i note acc = scanOf s) ∧ Hid (wr.ownsRow w.heap.size 75 3 v acc.length (acc.flatMap Tok.cells)) ∧ Hid (Bel w wr)) (fun _ _ p _ => s.size - (intOf p).toNat)
    case atStart => exact ⟨0, false, [], rfl, rfl, by omega, by simp, by rw [HR.out]; rfl, World.ownsRow_nil _ _ _ _, Bel.rfl_ w⟩
    case round =>
      obtain ⟨i, note, acc, rfl, rfl, hi, hacc, HS, HO, HB⟩ := hrel
      clear HR
      by_cases hlt : i < s.size
      · by_cases hnote : (note || s[i].toNat == 35) = true
        · have HS2 : Hid (scanG s (i + 1) (s[i].toNat != 10) acc = scanOf s) := Lib.hid (by rw [← HS.out, scanG_note hlt hnote])
          have h10 : ((s[i].toNat : Int) != 10) = (s[i].toNat != 10) := by rw [Bool.eq_iff_iff]; simp; omega
          generalize (s[i].toNat != 10) = b2 at h10 HS2
          cases note with
          | true =>
            clear hnote
            go_wp2
            go_roundw
            case rel => exact ⟨i + 1, b2, acc, by go_num, rfl, by omega, by omega, HS2, HO, HB⟩
            case measure => simp [intOf]; omega
          | false =>
            have d35 : ((s[i].toNat : Int) == 35) = true := by simp at hnote; simp; omega
            clear hnote
            go_wp2
            go_roundw
            case rel => exact ⟨i + 1, b2, acc, by go_num, rfl, by omega, by omega, HS2, HO, HB⟩
            case measure => simp [intOf]; omega
        · obtain rfl : note = false := by cases note; rfl; simp at hnote
          have h35 : s[i].toNat ≠ 35 := by simpa using hnote
          have d35 : ((s[i].toNat : Int) == 35) = false := by simp; omega
          clear hnote
          cases hbl : isBl s[i].toNat with
          | true =>
            have HS2 : Hid (scanG s (i + 1) false acc = scanOf s) := Lib.hid (by rw [← HS.out, scanG_bl hlt (by simp [h35]) hbl])
            have H35 := Lib.hid h35; clear h35
            unfold isBl at hbl
            by_cases h32 : s[i].toNat = 32
            · have e1 : ((s[i].toNat : Int) == 32) = true := by simp; omega
              clear hbl h32
              go_wp2
              go_roundw
              case rel => exact ⟨i + 1, false, acc, by go_num, rfl, by omega, by omega, HS2, HO, HB⟩
              case measure => simp [intOf]; omega
            · have e1 : ((s[i].toNat : Int) == 32) = false := by simp; omega
              by_cases h9 : s[i].toNat = 9
              · have e2 : ((s[i].toNat : Int) == 9) = true := by simp; omega
                clear hbl h32 h9
                go_wp2
                go_roundw
                case rel => exact ⟨i + 1, false, acc, by go_num, rfl, by omega, by omega, HS2, HO, HB⟩
                case measure => simp [intOf]; omega
              · have e2 : ((s[i].toNat : Int) == 9) = false := by simp; omega
                have e3 : ((s[i].toNat : Int) == 10) = true := by simp [h32, h9] at hbl; simp; omega
                clear hbl h32 h9
                go_wp2
                go_roundw
                case rel => exact ⟨i + 1, false, acc, by go_num, rfl, by omega, by omega, HS2, HO, HB⟩
                case measure => simp [intOf]; omega
          | false =>
            obtain ⟨k, n, hkn⟩ : ∃ k n, tokAt s i = (k, n) := ⟨_, _, rfl⟩
            have hk4 := tokAt_kind s i
            have hpos : Hid ((tokAt s i).1 ≠ 0 → 0 < n ∧ i + n ≤ s.size) := Lib.hid (fun h => by have := tokAt_pos h; rw [hkn] at this; exact this)
            have HE := Lib.hid (tokErr_bt s i)
            have HK := Lib.hid hkn
            have H35 := Lib.hid h35
            have HBL := Lib.hid hbl
            unfold isBl at hbl
            have e1 : ((s[i].toNat : Int) == 32) = false := by simp at hbl; simp; omega
            have e2 : ((s[i].toNat : Int) == 9) = false := by simp at hbl; simp; omega
            have e3 : ((s[i].toNat : Int) == 10) = false := by simp at hbl; simp; omega
            rw [hkn] at hk4
            simp only at hk4
            clear hkn h35 hbl
            rcases hk4 with rfl | rfl | rfl | rfl
            · clear hpos
              have HT : Hid (scanOf s = ([], (i : Int), 1)) := Lib.hid (by rw [← HS.out]; exact scanG_err' hlt H35.out HBL.out (by rw [HE.out, HK.out, if_pos rfl]) (by decide))
              have HTA := Lib.hid (fun W => tokenAt_kn s i n 0 W (by unfold ok64; omega) hlt (by rw [HK.out]; rfl) (by rw [HK.out]))
              clear HE HS
              go_wp2_with (go_at_call 48; refine (HTA.out _).mono ?_; rintro e w' ⟨rfl, rfl⟩)
              go_ret3
              exact ⟨_, by rw [HT.out]; rfl, by rw [HT.out]; exact Sl.nil_ _ _, HB.out⟩
            · by_cases h12 : 12 < n
              · have hp := hpos.out (by rw [HK.out]; simp)
                have HT : Hid (scanOf s = ([], (i : Int), 2)) := Lib.hid (by rw [← HS.out]; exact scanG_err' hlt H35.out HBL.out (by rw [HE.out, HK.out, if_neg (by simp), if_pos (.inl ⟨rfl, h12⟩)]) (by decide))
                have HTA := Lib.hid (fun W => tokenAt_kn s i n 1 W (by unfold ok64; omega) hlt (by rw [HK.out]; rfl) (by rw [HK.out]))
                clear HE HS
                go_wp2_with (go_at_call 48; refine (HTA.out _).mono ?_; rintro e w' ⟨rfl, rfl⟩)
                go_ret3
                exact ⟨_, by rw [HT.out]; rfl, by rw [HT.out]; exact Sl.nil_ _ _, HB.out⟩
              · have hp := hpos.out (by rw [HK.out]; simp)
                have HT : Hid (scanG s (i + n) false (acc ++ [⟨1, i, s.extract i (i + n)⟩]) = scanOf s) := Lib.hid (by rw [← HS.out]; exact (scanG_tok' hlt H35.out HBL.out (by rw [HK.out]; rfl) (by rw [HK.out]) (by rw [HE.out, HK.out, if_neg (by simp), if_neg (by simp; omega), if_neg (by simp)])).symm)
                have HTA := Lib.hid (fun W => tokenAt_kn s i n 1 W (by unfold ok64; omega) hlt (by rw [HK.out]; rfl) (by rw [HK.out]))
                clear HE HS
                go_wp2_with (first
                  | (go_at_call 48; refine (HTA.out _).mono ?_; rintro e w' ⟨rfl, rfl⟩)
                  | (at_builtin; refine wpl_app wr rfl (.tmp 91) (.tmp 96) 52 rfl w.heap.size elTok u5 acc.length _ rfl HO.out [.int .i64 1, .int .i64 i, .string (s.extract i (i + n))] rfl rfl (by simp [Value.oneCell']) (by simp only [maxLen]; omega) (by omega) HB.out.size ?_; intro g cap w2 hown2 hg2 _; have HO2 := Lib.hid hown2; have HB2 := Lib.hid (Below.ofGrown HB.out HO.out hg2 (Nat.le_refl _) HB.out.size); clear hown2 hg2))
                go_roundw
                case rel => exact ⟨i + n, false, acc ++ [⟨1, i, s.extract i (i + n)⟩], by go_num, rfl, by omega, by rw [List.length_append]; simp only [List.length_cons, List.length_nil]; omega, HT, (by unfold Hid; rw [flat_snoc, List.length_append]; exact HO2.out), HB2⟩
                case measure => simp [intOf]; omega
            · by_cases h7 : 7 < n
              · have hp := hpos.out (by rw [HK.out]; simp)
                have HT : Hid (scanOf s = ([], (i : Int), 2)) := Lib.hid (by rw [← HS.out]; exact scanG_err' hlt H35.out HBL.out (by rw [HE.out, HK.out, if_neg (by simp), if_pos (.inr ⟨rfl, h7⟩)]) (by decide))
                have HTA := Lib.hid (fun W => tokenAt_kn s i n 2 W (by unfold ok64; omega) hlt (by rw [HK.out]; rfl) (by rw [HK.out]))
                clear HE HS
                go_wp2_with (go_at_call 48; refine (HTA.out _).mono ?_; rintro e w' ⟨rfl, rfl⟩)
                go_ret3
                exact ⟨_, by rw [HT.out]; rfl, by rw [HT.out]; exact Sl.nil_ _ _, HB.out⟩
              · by_cases h1 : 1 < n
                · have hp := hpos.out (by rw [HK.out]; simp)
                  by_cases h48 : s[i].toNat = 48
                  · have H48 := Lib.hid h48
                    have d48 : (((s.extract i (i + n))[0]'(by rw [ByteArray.size_extract]; omega)).toNat : Int) = 48 := by rw [ByteArray.getElem_extract]; simp [h48]
                    clear h48
                    have HT : Hid (scanOf s = ([], (i : Int), 1)) := Lib.hid (by rw [← HS.out]; exact scanG_err' hlt H35.out HBL.out (by rw [HE.out, HK.out, if_neg (by simp), if_neg (by simp; omega), if_pos ⟨rfl, h1, by rw [bt_in hlt]; exact H48.out⟩]) (by decide))
                    have HTA := Lib.hid (fun W => tokenAt_kn s i n 2 W (by unfold ok64; omega) hlt (by rw [HK.out]; rfl) (by rw [HK.out]))
                    clear HE HS
                    go_wp2_with (go_at_call 48; refine (HTA.out _).mono ?_; rintro e w' ⟨rfl, rfl⟩)
                    go_ret3
                    exact ⟨_, by rw [HT.out]; rfl, by rw [HT.out]; exact Sl.nil_ _ _, HB.out⟩
                  · have H48 := Lib.hid h48
                    have d48 : ((((s.extract i (i + n))[0]'(by rw [ByteArray.size_extract]; omega)).toNat : Int) == 48) = false := by rw [ByteArray.getElem_extract]; simp; omega
                    clear h48
                    have hp := hpos.out (by rw [HK.out]; simp)
                    have HT : Hid (scanG s (i + n) false (acc ++ [⟨2, i, s.extract i (i + n)⟩]) = scanOf s) := Lib.hid (by rw [← HS.out]; exact (scanG_tok' hlt H35.out HBL.out (by rw [HK.out]; rfl) (by rw [HK.out]) (by rw [HE.out, HK.out, if_neg (by simp), if_neg (by simp; omega), if_neg (by rw [bt_in hlt]; exact fun h => H48.out h.2.2)])).symm)
                    have HTA := Lib.hid (fun W => tokenAt_kn s i n 2 W (by unfold ok64; omega) hlt (by rw [HK.out]; rfl) (by rw [HK.out]))
                    clear HE HS
                    go_wp2_with (first
                      | (go_at_call 48; refine (HTA.out _).mono ?_; rintro e w' ⟨rfl, rfl⟩)
                      | (at_builtin; refine wpl_app wr rfl (.tmp 91) (.tmp 96) 52 rfl w.heap.size elTok u5 acc.length _ rfl HO.out [.int .i64 2, .int .i64 i, .string (s.extract i (i + n))] rfl rfl (by simp [Value.oneCell']) (by simp only [maxLen]; omega) (by omega) HB.out.size ?_; intro g cap w2 hown2 hg2 _; have HO2 := Lib.hid hown2; have HB2 := Lib.hid (Below.ofGrown HB.out HO.out hg2 (Nat.le_refl _) HB.out.size); clear hown2 hg2))
                    go_roundw
                    case rel => exact ⟨i + n, false, acc ++ [⟨2, i, s.extract i (i + n)⟩], by go_num, rfl, by omega, by rw [List.length_append]; simp only [List.length_cons, List.length_nil]; omega, HT, (by unfold Hid; rw [flat_snoc, List.length_append]; exact HO2.out), HB2⟩
                    case measure => simp [intOf]; omega
                · have hp := hpos.out (by rw [HK.out]; simp)
                  have HT : Hid (scanG s (i + n) false (acc ++ [⟨2, i, s.extract i (i + n)⟩]) = scanOf s) := Lib.hid (by rw [← HS.out]; exact (scanG_tok' hlt H35.out HBL.out (by rw [HK.out]; rfl) (by rw [HK.out]) (by rw [HE.out, HK.out, if_neg (by simp), if_neg (by simp; omega), if_neg (by simp; omega)])).symm)
                  have HTA := Lib.hid (fun W => tokenAt_kn s i n 2 W (by unfold ok64; omega) hlt (by rw [HK.out]; rfl) (by rw [HK.out]))
                  clear HE HS
                  go_wp2_with (first
                    | (go_at_call 48; refine (HTA.out _).mono ?_; rintro e w' ⟨rfl, rfl⟩)
                    | (at_builtin; refine wpl_app wr rfl (.tmp 91) (.tmp 96) 52 rfl w.heap.size elTok u5 acc.length _ rfl HO.out [.int .i64 2, .int .i64 i, .string (s.extract i (i + n))] rfl rfl (by simp [Value.oneCell']) (by simp only [maxLen]; omega) (by omega) HB.out.size ?_; intro g cap w2 hown2 hg2 _; have HO2 := Lib.hid hown2; have HB2 := Lib.hid (Below.ofGrown HB.out HO.out hg2 (Nat.le_refl _) HB.out.size); clear hown2 hg2))
                  go_roundw
                  case rel => exact ⟨i + n, false, acc ++ [⟨2, i, s.extract i (i + n)⟩], by go_num, rfl, by omega, by rw [List.length_append]; simp only [List.length_cons, List.length_nil]; omega, HT, (by unfold Hid; rw [flat_snoc, List.length_append]; exact HO2.out), HB2⟩
                  case measure => simp [intOf]; omega
            · have hp := hpos.out (by rw [HK.out]; simp)
              have HT : Hid (scanG s (i + n) false (acc ++ [⟨3, i, s.extract i (i + n)⟩]) = scanOf s) := Lib.hid (by rw [← HS.out]; exact (scanG_tok' hlt H35.out HBL.out (by rw [HK.out]; rfl) (by rw [HK.out]) (by rw [HE.out, HK.out, if_neg (by simp), if_neg (by simp), if_neg (by simp)])).symm)
              have HTA := Lib.hid (fun W => tokenAt_kn s i n 3 W (by unfold ok64; omega) hlt (by rw [HK.out]; rfl) (by rw [HK.out]))
              clear HE HS
              go_wp2_with (first
                | (go_at_call 48; refine (HTA.out _).mono ?_; rintro e w' ⟨rfl, rfl⟩)
                | (at_builtin; refine wpl_app wr rfl (.tmp 91) (.tmp 96) 52 rfl w.heap.size elTok u5 acc.length _ rfl HO.out [.int .i64 3, .int .i64 i, .string (s.extract i (i + n))] rfl rfl (by simp [Value.oneCell']) (by simp only [maxLen]; omega) (by omega) HB.out.size ?_; intro g cap w2 hown2 hg2 _; have HO2 := Lib.hid hown2; have HB2 := Lib.hid (Below.ofGrown HB.out HO.out hg2 (Nat.le_refl _) HB.out.size); clear hown2 hg2))
              go_roundw
              case rel => exact ⟨i + n, false, acc ++ [⟨3, i, s.extract i (i + n)⟩], by go_num, rfl, by omega, by rw [List.length_append]; simp only [List.length_cons, List.length_nil]; omega, HT, (by unfold Hid; rw [flat_snoc, List.length_append]; exact HO2.out), HB2⟩
              case measure => simp [intOf]; omega
      · obtain rfl : i = s.size := by omega
        have HT : Hid (scanOf s = (acc, 0, 0)) := Lib.hid (by rw [← HS.out, scanG_end hlt])
        go_wp2
        go_ret3
        exact ⟨_, by rw [HT.out]; rfl, by rw [HT.out]; exact Sl.own_tok HO.out rfl, HB.out⟩

end Go.Proofs.YtegknpffiaeohaaDoor

namespace Go.Proofs.YtegknpffiaeohaaDoor
open Go.RowKit

theorem isTok_emp (kind : Int) : isTok kind emp = false := by
  cases h : isTok kind emp with
  | false => rfl
  | true =>
    obtain ⟨_, _, h3, h4⟩ := isTok_iff.1 h
    have h5 := tokAt_pos (tokErr_kind h4)
    rw [h3] at h5
    exact absurd h5.1 (Nat.lt_irrefl 0)
theorem isTok_kn {kind : Int} {s : ByteArray} {k n : Nat} (hs : s.size ≤ 6000) (h : tokAt s 0 = (k, n)) : isTok kind s = decide (kind = k ∧ n = s.size ∧ tokErr s 0 = 0) := by
  unfold isTok
  rw [h]
  congr 1
  simp only [eq_iff_iff]
  exact ⟨fun ⟨_, a, b, c⟩ => ⟨a, b, c⟩, fun ⟨a, b, c⟩ => ⟨hs, a, b, c⟩⟩
theorem emp_app (b : ByteArray) : emp ++ b = b := by
  apply ba_ext
  · rw [ByteArray.size_append]; exact Nat.zero_add _
  · intro k hk
    rw [bt_append, if_neg (show ¬ k < emp.size from Nat.not_lt_zero k)]; rfl
theorem allTok_snoc (l : List Tok) (t : Tok) : allTok (l ++ [t]) = (allTok l && isTok t.kind t.text) := by
  unfold allTok
  rw [List.all_append]; simp
theorem allTok_take {l : List Tok} {k : Nat} {t : Tok} (ht : l[k]? = some t) (h : isTok t.kind t.text = false) : allTok l = false := by
  unfold allTok
  rw [List.all_eq_false]
  exact ⟨t, List.mem_of_getElem? ht, by simp [h]⟩
theorem take_snoc {α : Type} {l : List α} {k : Nat} {t : α} (ht : l[k]? = some t) : l.take (k + 1) = l.take k ++ [t] := by
  rw [List.take_add_one, ht]; rfl

end Go.Proofs.YtegknpffiaeohaaDoor

namespace Go.Proofs.YtegknpffiaeohaaDoor
open Go.RowKit

/-- a callee that draws nothing, in a quiet region of a world that drew before -/
theorem quiet_add {P : Program} {f : FuncId} {args : Array Value} {w : World} {n m : Nat} {v : Value} (h : Calls P f args (w.drewN (n + m)) fun e w' => e = .returned v ∧ w' = w.drewN (n + m)) :
    Calls P f args (w.drewN (n + m)) fun e w'' => e = .returned v ∧ ∃ k, w'' = w.drewN (n + k) :=
  h.mono fun _ _ ⟨he, hm⟩ => ⟨he, m, hm⟩

end Go.Proofs.YtegknpffiaeohaaDoor
