/- The program's parser of trees: what it needs, names, numbers, signs; walked. Each lemma states its own conditions. -/
import Derived.Test.YtmfjlcpjemccmaaGreatDoorTts19
namespace Go.Proofs.YtmfjlcpjemccmaaGreatDoor
open Go.RowKit
/-- some words, one behind the other -/
def needsD (l : List Tok) (ss : List ByteArray) (q : RS) : RS := ss.foldl (fun q s => needD l s q) q
theorem needsD_bad {l : List Tok} (ss : List ByteArray) (p : Nat) : needsD l ss (p, true) = (p, true) := by
 induction ss with
 | nil => rfl
 | cons s ss ih => exact ih
theorem needD_yes {l : List Tok} {s : ByteArray} {p : Nat} (h : tx l p false = s) : needD l s (p, false) = (p + 1, false) := by
 unfold needD
 rw [if_neg (by simp)]
 dsimp only
 rw [if_pos h]
theorem needD_no {l : List Tok} {s : ByteArray} {p : Nat} (h : tx l p false ≠ s) : needD l s (p, false) = (p, true) := by
 unfold needD
 rw [if_neg (by simp)]
 dsimp only
 rw [if_neg h]
set_option maxRecDepth 20000 in
theorem needs_any (l : List Tok) (lv : Value) (p E g q : Nat) (ss : List ByteArray) (w0 w : World) (hl : Sl tokR w0 lv l) (hn : l.length ≤ 6000) (h0 : Bel w0 w) (hg : w0.heap.size ≤ g) (h : Ps w g lv p E) (hss : ∀ s ∈ ss, s ≠ emp) (hs9 : ss.length ≤ 9) (hB : Blk w q 9 (ss.map Value.string).toArray) (hq : q ≠ g) :
  Calls Tryz.prog 141 #[.pointer (some ⟨g, 0, none⟩), .slice (some ⟨q, 0, none⟩) ss.length ss.length] w fun r w' => PsR w g lv l E (needsD l ss (p, false)) (fun r _ => r = .returned (.tuple #[])) r w' := by
 have HY := Hi_ (fun W (hb : Bel w0 W) (k : Nat) (hk : Ps W g lv k E) s hs ht => take_yes l lv k E g s hs W (hl.keep hb) hn hk ht)
 have HN := Hi_ (fun W (hb : Bel w0 W) (k : Nat) (hk : Ps W g lv k E) s hs ht => take_no l lv k E g s hs W (hl.keep hb) hn hk ht)
 have HF := Hi_ (fun W (hb : Bel w0 W) (k : Nat) (hk : Ps W g lv k E) => fail_any l lv k E g W (hl.keep hb) hn hk)
 have HSS := Hi_ hss
 have HBB := Hi_ hB
 have HP := Hi_ h
 have HG := Hi_ ((Bel.rfl_ w).grown (some g))
 have HGB : Hid (∀ W, w.grownBy W (some g) → Bel w0 W) := Hi_ (fun W hW => grownBel h0 hg hW)
 clear hl h0 hss hB h
 go_enter Tryz.func141, Tryz.ntmps141
 go_wp2
 go_loopw [8] (fun t wr => ∃ j k : Nat, j ≤ ss.length ∧ t = .int .i64 j ∧ Hid (needsD l (ss.drop j) (k, false) = needsD l ss (p, false)) ∧ Hid (Ps wr g lv k E) ∧ Hid (w.grownBy wr (some g))) (fun t _ => ss.length - (intOf t).toNat)
 case atStart => exact ⟨0, p, by omega, rfl, Hi_ rfl, HP, HG⟩
 case round =>
  clear HP HG
  obtain ⟨j, k, hj, rfl, HS, HP, HG⟩ := hrel
  by_cases hlt : j < ss.length
  ·have hd : decide ((j : Int) < ss.length) = true := decide_eq_true (by omega)
   obtain ⟨s, hx⟩ : ∃ s, ss[j]? = some s := ⟨_, List.getElem?_eq_getElem hlt⟩
   have hne := HSS.out s (List.mem_of_getElem? hx)
   have x0 := ((HBB.out.grown HG.out (by intro e; exact hq (Option.some.inj e))).cell (i := j) (v := .string s) (by rw [List.getElem?_toArray, List.getElem?_map, hx]; rfl))
   have HS1 : Hid (needsD l (s :: ss.drop (j + 1)) (k, false) = needsD l ss (p, false)) := Hi_ (by
    obtain ⟨hlx, rfl⟩ := List.getElem?_eq_some_iff.1 hx
    rw [← HS.out, List.drop_eq_getElem_cons hlx])
   have HB := Hi_ (HGB.out _ HG.out)
   clear hx HS
   by_cases ht : tx l k false = s
   ·have HT := Hi_ ht
    have HNE := Hi_ hne
    have HS2 : Hid (needsD l (ss.drop (j + 1)) (k + 1, false) = needsD l ss (p, false)) := Hi_ (by
     rw [← HS1.out]
     show _ = needsD l (ss.drop (j + 1)) (needD l s (k, false))
     rw [needD_yes ht])
    clear ht HS1 hne
    go_wp2_with fail
    refine (HY.out _ HB.out k HP.out s HNE.out HT.out).mono ?_
    rintro r w2 ⟨rfl, hp2, hg2⟩
    have HP2 := Hi_ hp2
    replace HG := Hi_ (HG.out.trans hg2)
    clear hp2 hg2 HP HB x0
    go_wp2
    go_roundw
    case rel => exact ⟨j + 1, k + 1, by omega, by go_num, HS2, HP2, HG⟩
    case measure => simp [intOf]; omega
   ·have HT := Hi_ ht
    have HNE := Hi_ hne
    have HS2 : Hid (needsD l ss (p, false) = (k, true)) := Hi_ (by
     rw [← HS1.out]
     show needsD l (ss.drop (j + 1)) (needD l s (k, false)) = _
     rw [needD_no ht, needsD_bad])
    clear ht HS1 hne
    go_wp2_with fail
    refine (HN.out _ HB.out k HP.out s HNE.out HT.out).mono ?_
    rintro r w2 ⟨rfl, hb2⟩
    replace HP := Hi_ (HP.out.keep hb2)
    replace HB := Hi_ (HB.out.tr hb2)
    replace HG := Hi_ (HG.out.trans (hb2.grown _))
    clear hb2 x0
    go_wp2_with fail
    refine (HF.out _ HB.out k HP.out).mono ?_
    rintro r w3 ⟨rfl, hb3⟩
    replace HG := Hi_ (HG.out.trans (hb3.grown _))
    clear hb3
    go_wp2
    exact ⟨rfl, .mkBad HS2.out HG.out⟩
  ·obtain rfl : j = ss.length := by omega
   have hd : decide ((ss.length : Int) < ss.length) = false := decide_eq_false (by omega)
   have HS2 : Hid (needsD l ss (p, false) = (k, false)) := Hi_ (by rw [← HS.out, List.drop_length]; rfl)
   clear HS
   go_wp2
   exact bodyPost_end (v := .tuple #[]) (results_none rfl _ _ _) rfl (.mkGood HS2.out HG.out HP.out rfl)
theorem nameD_yes {l : List Tok} {p : Nat} (h : isName (tx l p false) = true) : nameD l (p, false) = (tx l p false, (p + 1, false)) := by
 unfold nameD
 rw [if_pos h]
theorem nameD_no {l : List Tok} {p : Nat} (h : isName (tx l p false) = false) : nameD l (p, false) = (emp, (p, true)) := by
 unfold nameD
 rw [if_neg (by rw [h]; decide)]
set_option maxRecDepth 20000 in
theorem gname_any (l : List Tok) (lv : Value) (p E g : Nat) (w0 w : World) (hl : Sl tokR w0 lv l) (hn : l.length ≤ 6000) (hm : ∀ t ∈ l, t.text.size ≤ maxLen) (h0 : Bel w0 w) (hg : w0.heap.size ≤ g) (h : Ps w g lv p E) :
  Calls Tryz.prog 181 #[.pointer (some ⟨g, 0, none⟩)] w fun r w' => PsR w g lv l E (nameD l (p, false)).2 (fun r _ => r = .returned (.string (nameD l (p, false)).1)) r w' := by
 have HI := Hi_ (pname_any l lv p E g w (hl.keep h0) hn hm h)
 have HF := Hi_ (fun W (hb : Bel w W) => fail_any l lv p E g W (hl.keep (h0.tr hb)) hn (h.keep hb))
 have HP := Hi_ h
 have HL := Hi_ hl
 have HGB : Hid (∀ W, w.grownBy W (some g) → Bel w0 W) := Hi_ (fun W hW => grownBel h0 hg hW)
 clear h hl h0
 cases hi : isName (tx l p false) with
 | false =>
  have HE := Hi_ (nameD_no hi)
  rw [hi] at HI
  clear hi HL
  go_enter Tryz.func181, Tryz.ntmps181
  go_wp2_with fail
  refine HI.out.mono ?_
  rintro r w1 ⟨rfl, hb1⟩
  have HB := Hi_ hb1
  clear hb1 HI
  go_wp2_with fail
  refine (HF.out _ HB.out).mono ?_
  rintro r w2 ⟨rfl, hb2⟩
  replace HB := Hi_ (HB.out.tr hb2)
  clear hb2
  go_wp2
  exact ⟨rfl, .mkBad (by rw [HE.out]) (HB.out.grown _)⟩
 | true =>
  have hp := tx_lt (l := l) (p := p) (f := false) (fun e => by rw [e, isName_emp] at hi; cases hi)
  have HE := Hi_ (nameD_yes hi)
  rw [hi] at HI
  clear hi HF
  obtain ⟨t, hx⟩ : ∃ t, l[p]? = some t := ⟨_, List.getElem?_eq_getElem hp⟩
  have HT : Hid (tx l p false = t.text) := Hi_ (by unfold tx; rw [if_neg (by decide), hx])
  have HX := Hi_ hx
  clear hx
  go_enter Tryz.func181, Tryz.ntmps181
  go_wp2_with fail
  refine HI.out.mono ?_
  rintro r w1 ⟨rfl, hb1⟩
  have HB := Hi_ hb1
  replace HP := Hi_ (HP.out.keep hb1)
  clear hb1 HI
  obtain ⟨y0, y1, y2, yf⟩ := HP.out.go
  go_upto_region 4 with fail
  clear y0 y1 y2 yf
  have HB2 := Hi_ (HP.out.set_ 1 (.int .i64 ((p : Int) + 1)))
  have HG := Hi_ (grownS_set (HB.out.grown (some g)) 1 (.int .i64 ((p : Int) + 1)))
  generalize w1.setCell ⟨g, 1, none⟩ (.int .i64 ((p : Int) + 1)) = w2 at *
  have y0 := HB2.out.cell (i := 0) (v := lv) rfl
  have y1 := HB2.out.cell (i := 1) (v := .int .i64 ((p : Int) + 1)) rfl
  obtain ⟨A, c, rfl, _, _, hA⟩ := HL.out
  obtain ⟨b, o, rfl, hcs⟩ := hA (by omega)
  obtain ⟨-, -, x2'⟩ := tokR.cells hcs HX.out
  have x2 := (HGB.out _ HG.out).cell x2'
  have HB3 : Hid (Ps w2 g (.slice (some ⟨b, o, none⟩) l.length c) (p + 1) E) := Hi_ (by have := HB2.out; exact this)
  clear hcs hA HL x2' HB2
  go_quiet (fail)
  go_wp2
  go_ret
  refine .mkGood (x := p + 1) (by rw [HE.out]) (grownS_drN HG.out _) (HB3.out.keep ((Bel.rfl_ _).drN _)) (by rw [HE.out, HT.out]; rfl)
theorem decFrom_num : ∀ (l : List UInt8) (a : Nat), (∀ b ∈ l, 48 ≤ b.toNat ∧ b.toNat ≤ 57) → ∃ n : Nat, Lib.decFrom a l = some n ∧ (n : Int) = l.foldl (fun n b => 10 * n + (b.toNat : Int) - 48) (a : Int)
 | [], a, _ => ⟨a, rfl, rfl⟩
 | b :: l, a, h => by
  have hb := h b (by simp)
  obtain ⟨n, h1, h2⟩ := decFrom_num l (a * 10 + (b.toNat - 48)) (fun x hx => h x (by simp [hx]))
  refine ⟨n, ?_, ?_⟩
  ·rw [Lib.decFrom]
   unfold Lib.digitVal
   rw [if_pos hb]
   exact h1
  ·rw [h2, List.foldl_cons]
   congr 1
   omega
theorem NumOk.atoi {s : ByteArray} (h : NumOk s) : Lib.atoi s.data.toList = some (numB s) := by
 obtain ⟨h1, h2, h3⟩ := h
 obtain ⟨n, h4, h5⟩ := decFrom_num s.data.toList 0 h3
 unfold numB
 have hl : 0 < s.data.toList.length := by simpa using h1
 rw [show ((0 : Nat) : Int) = 0 from rfl] at h5
 cases hs : s.data.toList with
 | nil => rw [hs] at hl; simp at hl
 | cons b r =>
  rw [hs] at h3 h4 h5
  have hb := h3 b (by simp)
  have n45 : (b == 45) = false := by
   rw [beq_eq_false_iff_ne]
   intro e
   rw [e] at hb
   exact absurd hb (by decide)
  have n43 : (b == 43) = false := by
   rw [beq_eq_false_iff_ne]
   intro e
   rw [e] at hb
   exact absurd hb (by decide)
  unfold Lib.atoi
  simp only [n45, n43, Bool.false_eq_true, if_false]
  unfold Lib.decNat
  simp only [List.isEmpty_cons, Bool.false_eq_true, if_false, h4, Option.map_some]
  rw [h5]
theorem atoi_any (s : ByteArray) (h : NumOk s) (w : World) : Calls Tryz.prog 208 #[.string s] w fun r w' => r = .returned (.tuple #[.int .i64 (numB s), .nilIface]) ∧ Bel w w' :=
 (Tryz.strconv_Atoi s (numB s) (by have := h.2.1; omega) h.atoi w).mono fun _ _ ⟨h1, t, h2⟩ => ⟨h1, by
  subst h2
  exact ⟨rfl, rfl, rfl, by rw [Lib.bytesWorld_size]; omega, fun k hk => Lib.bytesWorld_at_old w _ t k hk⟩⟩
theorem numD_yes {l : List Tok} {p : Nat} (h : digD (tx l p false) = true) : numD l (p, false) = (numB (tx l p false), (p + 1, false)) := by
 unfold numD
 rw [if_pos h]
theorem numD_no {l : List Tok} {p : Nat} (h : digD (tx l p false) = false) : numD l (p, false) = (0, (p, true)) := by
 unfold numD
 rw [if_neg (by rw [h]; decide)]
/-- a token is a number, or it does not begin with a digit -/
theorem digD_tok {l : List Tok} {p : Nat} {t : Tok} (hok : ∀ t ∈ l, TokOk t) (hx : l[p]? = some t) : digD (tx l p false) = decide (t.kind = 2) := by
 have ho := hok t (List.mem_of_getElem? hx)
 have ht : tx l p false = t.text := by unfold tx; rw [if_neg (by decide), hx]
 have hne : t.text ≠ emp := fun e => by have := ho.2.1; rw [e] at this; exact absurd this (by decide)
 rw [ht]
 unfold digD
 rw [decide_eq_true hne, Bool.true_and]
 by_cases hk : t.kind = 2
 ·rw [decide_eq_true hk]
  obtain ⟨h1, h2, h3⟩ := ho.1 hk
  rw [bt_in h1]
  have := h3 t.text[0] (by
   have : t.text[0] = t.text.data.toList[0]'(by simpa using h1) := rfl
   rw [this]
   exact List.getElem_mem _)
  unfold isD
  simp
  omega
 ·rw [decide_eq_false hk]
  exact ho.2.2 hk
theorem digD_none {l : List Tok} {p : Nat} (h : ¬ p < l.length) : digD (tx l p false) = false := by
 have : tx l p false = emp := by unfold tx; rw [if_neg (by decide), List.getElem?_eq_none (by omega)]
 rw [this]
 rfl
set_option maxRecDepth 20000 in
theorem number_any (l : List Tok) (lv : Value) (p E g : Nat) (w0 w : World) (hl : Sl tokR w0 lv l) (hn : l.length ≤ 6000) (hok : ∀ t ∈ l, TokOk t) (h0 : Bel w0 w) (_hg : w0.heap.size ≤ g) (h : Ps w g lv p E) :
  Calls Tryz.prog 186 #[.pointer (some ⟨g, 0, none⟩)] w fun r w' => PsR w g lv l E (numD l (p, false)).2 (fun r _ => r = .returned (.int .i64 (numD l (p, false)).1)) r w' := by
 have HP := Hi_ h
 have HF := Hi_ (fun V (hb : Bel w V) => fail_any l lv p E g V (hl.keep (h0.tr hb)) hn (h.keep hb))
 have HL := Hi_ (hl.keep h0)
 clear h h0 hl
 obtain ⟨A, c, rfl, _, _, hA⟩ := HL.out
 obtain ⟨y0, y1, y2, yf⟩ := HP.out.go
 by_cases hp : p < l.length
 rotate_left
 ·have HRR := Hi_ (numD_no (digD_none hp))
  have d1 : decide (l.length ≤ p) = true := decide_eq_true (by omega)
  clear hA HL
  go_enter Tryz.func186, Tryz.ntmps186
  go_wp2
  go_quiet (fail)
  go_wp2_with fail
  refine (HF.out _ ((Bel.rfl_ w).drN _)).mono ?_
  rintro r w2 ⟨rfl, hb2⟩
  have HG2 := Hi_ ((((Bel.rfl_ w).drN _).tr hb2).grown (some g))
  clear hb2
  go_wp2
  exact ⟨rfl, .mkBad (by rw [HRR.out]) HG2.out⟩
 obtain ⟨t, hx⟩ : ∃ t, l[p]? = some t := ⟨_, List.getElem?_eq_getElem hp⟩
 have hdt := digD_tok hok hx
 have HT : Hid (tx l p false = t.text) := Hi_ (by unfold tx; rw [if_neg (by decide), hx])
 obtain ⟨b, o, rfl, hcs⟩ := hA (by omega)
 obtain ⟨x0, x1, x2⟩ := tokR.cells hcs hx
 have d1 : decide (l.length ≤ p) = false := decide_eq_false (by omega)
 have HNO := Hi_ ((hok t (List.mem_of_getElem? hx)).1)
 clear hcs hx hA HL x1
 by_cases hk : t.kind = 2
 rotate_left
 ·have hk2 : (t.kind != 2) = true := by simpa using hk
  have HRR := Hi_ (numD_no (hdt.trans (decide_eq_false hk)))
  clear hk hdt
  go_enter Tryz.func186, Tryz.ntmps186
  go_wp2
  go_quiet (fail)
  go_wp2_with fail
  refine (HF.out _ ((Bel.rfl_ w).drN _)).mono ?_
  rintro r w2 ⟨rfl, hb2⟩
  have HG2 := Hi_ ((((Bel.rfl_ w).drN _).tr hb2).grown (some g))
  clear hb2
  go_wp2
  exact ⟨rfl, .mkBad (by rw [HRR.out]) HG2.out⟩
 rw [hk] at x0
 have HRR := Hi_ (numD_yes (hdt.trans (decide_eq_true hk)))
 rw [HT.out] at HRR
 have HAT := Hi_ (atoi_any t.text (HNO.out hk))
 obtain ⟨hb1, hb2⟩ := (HNO.out hk).bound
 clear hk HNO hdt HT
 have HBW := Hi_ (Bel.rfl_ w)
 generalize numB t.text = N at *
 go_enter Tryz.func186, Tryz.ntmps186
 go_wp2
 go_quiet (fail)
 go_wp2
 go_region_law (first | (go_simp; go_at_call 208; refine (HAT.out _).mono ?_; rintro r w2 ⟨rfl, hb2'⟩; have HB2 := Hi_ (Bel.tr (by repeat (first | exact Bel.rfl_ _ | apply Bel.drN | apply Bel.dr)) hb2' : Bel w _); obtain ⟨z0, z1, z2, zf⟩ := (HP.out.keep HB2.out).go; clear hb2'))
 all_goals go_wp2
 all_goals go_ret
 all_goals exact .mkGood (x := p + 1) (by rw [HRR.out]) (grownS_set (HB2.out.grown (some g)) 1 _) (Ps.at_ (HP.out.keep HB2.out) (by omega)) (by rw [HRR.out]; simp)
set_option maxRecDepth 20000 in
theorem operator_any (l : List Tok) (lv : Value) (p E g : Nat) (w0 w : World) (hl : Sl tokR w0 lv l) (hn : l.length ≤ 6000) (h0 : Bel w0 w) (_hg : w0.heap.size ≤ g) (h : Ps w g lv p E) :
  Calls Tryz.prog 207 #[.pointer (some ⟨g, 0, none⟩)] w fun r w' => PsR w g lv l E (opS l (p, false)) (fun r _ => r = .returned (.int .i64 (opK (opD l (p, false)) 7))) r w' := by
 have hglt := h.lt
 have HY := Hi_ (fun W (hb : Bel w W) s hs ht => take_yes l lv p E g s hs W (hl.keep (h0.tr hb)) hn (h.keep hb) ht)
 have HN := Hi_ (fun W (hb : Bel w W) s hs ht => take_no l lv p E g s hs W (hl.keep (h0.tr hb)) hn (h.keep hb) ht)
 have HF := Hi_ (fun W (hb : Bel w W) => fail_any l lv p E g W (hl.keep (h0.tr hb)) hn (h.keep hb))
 have HO : Hid (Blk (w.alloc (.cells #[.string ⟨#[43]⟩, .string ⟨#[45]⟩, .string ⟨#[42]⟩, .string ⟨#[47]⟩, .string ⟨#[37]⟩, .string ⟨#[60]⟩, .string ⟨#[61, 61]⟩] 9)) w.heap.size 9 (opsL.map Value.string).toArray) := Hi_ (Blk.new w _ _)
 have HW0 := Hi_ ((Bel.rfl_ w).al (.cells #[.string ⟨#[43]⟩, .string ⟨#[45]⟩, .string ⟨#[42]⟩, .string ⟨#[47]⟩, .string ⟨#[37]⟩, .string ⟨#[60]⟩, .string ⟨#[61, 61]⟩] 9))
 clear h hl h0
 go_enter Tryz.func207, Tryz.ntmps207
 go_wp2
 generalize w.alloc (.cells #[.string ⟨#[43]⟩, .string ⟨#[45]⟩, .string ⟨#[42]⟩, .string ⟨#[47]⟩, .string ⟨#[37]⟩, .string ⟨#[60]⟩, .string ⟨#[61, 61]⟩] 9) = W0 at *
 generalize w.heap.size = Q at *
 go_loopw [7] (fun t wr => ∃ j : Nat, j ≤ 7 ∧ t = .int .i64 j ∧ Hid (∀ i, i < j → tx l p false ≠ opB i) ∧ Hid (Bel w wr) ∧ Hid (Bel W0 wr)) (fun t _ => 7 - (intOf t).toNat)
 case atStart => exact ⟨0, by omega, rfl, Hi_ (fun i hi => absurd hi (Nat.not_lt_zero i)), HW0, Hi_ (Bel.rfl_ _)⟩
 case round =>
  obtain ⟨j, hj, rfl, HS, HB, HB0⟩ := hrel
  by_cases hlt : j < 7
  ·have hd : decide ((j : Int) < 7) = true := decide_eq_true (by omega)
   have x0 := HB0.out.cell (ops_cell HO.out hlt)
   have hne : opB j ≠ emp := op_emp ⟨j, hlt⟩
   have HNE := Hi_ hne
   clear hne
   by_cases ht : tx l p false = opB j
   ·have HT := Hi_ ht
    have hD := opD_yes (r := (p, false)) hlt ht
    have HR1 : Hid (opS l (p, false) = (p + 1, false)) := Hi_ (by
     unfold opS
     rw [hD]
     exact needD_yes ht)
    have HR2 : Hid (opK (opD l (p, false)) 7 = 4 + (j : Int)) := Hi_ (by rw [opK_end, hD])
    clear ht HS hD
    generalize opB j = s at *
    go_wp2_with fail
    refine (HY.out _ HB.out _ HNE.out HT.out).mono ?_
    rintro r w2 ⟨rfl, hp2, hg2⟩
    have HP2 := Hi_ hp2
    have HG2 := Hi_ ((HB.out.grown (some g)).trans hg2)
    clear hp2 hg2
    go_wp2
    go_ret
    exact .mkGood (x := p + 1) HR1.out HG2.out HP2.out (by rw [HR2.out]; rfl)
   ·have HT := Hi_ ht
    have HS2 : Hid (∀ i, i < j + 1 → tx l p false ≠ opB i) := Hi_ (fun i hi => by
     by_cases e : i = j
     ·rw [e]; exact HT.out
     ·exact HS.out i (by omega))
    clear ht HS
    generalize opB j = s at *
    go_wp2_with fail
    refine (HN.out _ HB.out _ HNE.out HT.out).mono ?_
    rintro r w2 ⟨rfl, hb2⟩
    replace HB := Hi_ (HB.out.tr hb2)
    replace HB0 := Hi_ (HB0.out.tr hb2)
    clear hb2
    go_wp2
    go_roundw
    case rel => exact ⟨j + 1, by omega, by go_num, HS2, HB, HB0⟩
    case measure => simp [intOf]; omega
  ·obtain rfl : j = 7 := by omega
   have HR1 : Hid (opS l (p, false) = (p, true)) := Hi_ (by
    unfold opS
    cases hD : opD l (p, false) with
    | none => rfl
    | some i =>
     obtain ⟨h1, h2⟩ := opD_some hD
     exact absurd h2 (HS.out i h1))
   clear HS
   go_wp2_with fail
   refine (HF.out _ HB.out).mono ?_
   rintro r w2 ⟨rfl, hb2⟩
   replace HB := Hi_ (HB.out.tr hb2)
   clear hb2
   go_wp2
   exact ⟨rfl, .mkBad HR1.out (HB.out.grown _)⟩
end Go.Proofs.YtmfjlcpjemccmaaGreatDoor
