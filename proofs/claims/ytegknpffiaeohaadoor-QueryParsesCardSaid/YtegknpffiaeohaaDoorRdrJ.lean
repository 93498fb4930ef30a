/- The document's reader of a query of the kinds 1 to 6: walked. The document's reader of a query of the kinds 5 and 6: walked. Each lemma states its own conditions. -/
import Derived.Test.YtegknpffiaeohaaDoorRdrH
namespace Go.Proofs.YtegknpffiaeohaaDoor
open Go.RowKit

set_option maxRecDepth 20000 in
set_option maxHeartbeats 4000000 in
theorem doc_four (l : List Tok) (lv : Value) (p E g kk : Nat) (D : Int) (rec : Option (Nat → PR Ask)) (w0 w : World) (hl : Sl tokR w0 lv l) (hn : l.length ≤ 6000) (_hok : ∀ t ∈ l, TokOk t) (h0 : Bel w0 w) (hg : w0.heap.size ≤ g) (h : Rd w g lv p E false) (ht : tk l p lparB = false) (hw : wordP l unK p = some kk)
    (hkk : kk = 4):
    Calls Tryd.prog 34 #[.pointer (some ⟨g, 0, none⟩), .int .i64 D] w fun r w' => RdRes w g lv E (unFin kk rec (nP l kk (p + 1))) r w' := by
  obtain ⟨hku, hk1, hk14, hkt, hp⟩ := un_word hw
  have htx : tx l p false ≠ lparB := fun e => by
    rw [tk_tx (by decide), decide_eq_false_iff_not] at ht
    exact ht e
  have HTX := Lib.hid (fun W q fl (hb : Bel w0 W) (hq : q ≤ l.length) (h : Rd W g lv q E fl) => text_any l lv q E g fl W (hl.keep hb) hn hq h)
  have HND := Lib.hid (fun W q fl s (hb : Bel w0 W) (hq : q ≤ l.length) (h : Rd W g lv q E fl) => need_any l lv q E g fl s W (hl.keep hb) hn hq h)
  have HN2 : Hid (needS l p false (wordB kk) = (p + 1, false)) := Lib.hid (needS_yes hkt)
  have HS := Lib.hid (AskS.start (E := E) h)
  have e40 : ((tx l p false).toList == [40]) = false := lit_false htx
  have HWY : Hid (∀ k : Nat, 1 ≤ k → k < 15 → arity (k : Int) < 2 → tx l p false = wordB k → wordP l unK p = some k) := Lib.hid fun k h1 h2 h3 e => (wordP_un ⟨k, h2⟩).2 ⟨(mem_unK ⟨k, h2⟩).2 ⟨h1, h3⟩, e⟩
  have HWN : Hid (∀ k : Nat, k < 15 → wordP l unK p = some k → arity (k : Int) < 2 ∧ tx l p false = wordB k) := Lib.hid fun k h2 e => by
    obtain ⟨h3, h4⟩ := (wordP_un ⟨k, h2⟩).1 e
    exact ⟨((mem_unK ⟨k, h2⟩).1 h3).2, h4⟩
  have HWK : Hid (wordP l unK p = some kk) := Lib.hid hw
  have hup : upTo (wordP l unK p) 1 = 0 := by rw [hw]; unfold upTo; simp only []; rw [if_neg (by omega)]
  have hup15 : upTo (wordP l unK p) 15 = kk := by rw [hw]; unfold upTo; simp only []; rw [if_pos (by omega)]
  clear h ht htx hw hkt
  replace hkk := Lib.hid hkk
  go_enter Tryd.func34, Tryd.ntmps34
  go_upto_region 2 with fail
  generalize (w.alloc (.cells #[.int .i64 0, .int .i64 0, .slice none 0 0] 24)).alloc (.cells #[.int .i64 0, .int .i64 0, .slice none 0 0] 24) = W0 at *
  go_wp2_with fail
  refine (HTX.out _ p false (grownBel h0 hg HS.out.grew) (by omega) HS.out.1).mono ?_
  rintro r w1 ⟨rfl, hb⟩
  replace HS := Lib.hid (HS.out.keep hb)
  clear hb
  go_wp2
  have HX : Hid (AskS w W0 w1 g lv E p false (upTo (wordP l unK p) 1) 0 (.slice none 0 0)) := Lib.hid (by rw [hup]; exact HS.out)
  clear e40 hup
  go_loopw [9] (fun t wr => ∃ k : Nat, 1 ≤ k ∧ k ≤ 15 ∧ t = .int .i64 k ∧ Hid (AskS w W0 wr g lv E p false (upTo (wordP l unK p) k) 0 (.slice none 0 0))) (fun t _ => 15 - (intOf t).toNat)
  case atStart => exact ⟨1, by omega, by omega, rfl, HX⟩
  case round =>
    obtain ⟨k, hk1', hk, rfl, HY⟩ := hrel
    clear HX HS
    by_cases hlt : k < 15
    · have hd : decide ((k : Int) ≤ 14) = true := decide_eq_true (by omega)
      have HGA := Lib.hid (askArgs_any (k : Int))
      have HW := Lib.hid (askWord_any k (by omega))
      go_wp2_with fail
      refine (HGA.out _).mono ?_
      rintro r w4 ⟨rfl, rfl⟩
      by_cases ha : arity (k : Int) < 2
      · have hd2 : decide (arity (k : Int) < 2) = true := decide_eq_true ha
        by_cases hs : tx l p false = wordB k
        · have hK := HWY.out k hk1' hlt ha hs
          have hwe : ((tx l p false).toList == (wordB k).toList) = true := by rw [hs]; simp
          clear ha hs
          generalize arity (k : Int) = a at *
          go_wp2_with fail
          refine (HTX.out _ p false (grownBel h0 hg HY.out.grew) (by omega) HY.out.1).mono ?_
          rintro r w5 ⟨rfl, hb3⟩
          replace HY := Lib.hid (HY.out.keep hb3)
          clear hb3
          go_wp2_with fail
          refine (HW.out _).mono ?_
          rintro r w6 ⟨rfl, hb4⟩
          replace HY := Lib.hid (HY.out.keep hb4)
          clear hb4
          obtain ⟨-, -, z0, z1, z2, fz0, fz1, fz2⟩ := HY.out.go
          go_wp2
          go_roundw
          case rel => exact ⟨k + 1, by omega, by omega, by go_num, Lib.hid (by rw [upTo_yes hK]; exact HY.out.put0 k)⟩
          case measure => simp [intOf]; omega
        · have hK : wordP l unK p ≠ some k := fun e => hs (HWN.out k hlt e).2
          have hwe : ((tx l p false).toList == (wordB k).toList) = false := str_false hs
          clear ha hs
          generalize arity (k : Int) = a at *
          go_wp2_with fail
          refine (HTX.out _ p false (grownBel h0 hg HY.out.grew) (by omega) HY.out.1).mono ?_
          rintro r w5 ⟨rfl, hb3⟩
          replace HY := Lib.hid (HY.out.keep hb3)
          clear hb3
          go_wp2_with fail
          refine (HW.out _).mono ?_
          rintro r w6 ⟨rfl, hb4⟩
          replace HY := Lib.hid (HY.out.keep hb4)
          clear hb4
          go_wp2
          go_roundw
          case rel => exact ⟨k + 1, by omega, by omega, by go_num, Lib.hid (by rw [upTo_no hK]; exact HY.out)⟩
          case measure => simp [intOf]; omega
      · have hd2 : decide (arity (k : Int) < 2) = false := decide_eq_false ha
        have hK : wordP l unK p ≠ some k := fun e => ha (HWN.out k hlt e).1
        clear ha
        generalize arity (k : Int) = a at *
        go_wp2
        go_roundw
        case rel => exact ⟨k + 1, by omega, by omega, by go_num, Lib.hid (by rw [upTo_no hK]; exact HY.out)⟩
        case measure => simp [intOf]; omega
    · obtain rfl : k = 15 := by omega
      have hd : decide (((15 : Nat) : Int) ≤ 14) = false := decide_eq_false (by omega)
      have HS : Hid (AskS w W0 wr g lv E p false kk 0 (.slice none 0 0)) := Lib.hid (by rw [← hup15]; exact HY.out)
      clear HY HWY HWN HWK hup15
      obtain ⟨-, -, z0, z1, z2, fz0, fz1, fz2⟩ := HS.out.go
      have hk0 : ((kk : Int) == 0) = false := by simp; omega
      have HW := Lib.hid (askWord_any kk (by omega))
      go_wp2_with fail
      refine (HW.out _).mono ?_
      rintro r w4 ⟨rfl, hb4⟩
      replace HS := Lib.hid (HS.out.keep hb4)
      clear hb4 z0 z1 z2 fz0 fz1 fz2
      go_wp2_with fail
      refine (HND.out _ p false _ (grownBel h0 hg HS.out.grew) (by omega) HS.out.1).mono ?_
      rintro r w5 ⟨⟨v5, rfl⟩, hp5, hg5⟩
      rw [HN2.out] at hp5
      replace HS := Lib.hid (HS.out.grown hg5 hp5)
      clear hg5 hp5 HN2
      obtain ⟨z3, fz3, z0, z1, z2, fz0, fz1, fz2⟩ := HS.out.go
      obtain rfl := hkk.out
      clear z3 fz3 z0 z1 z2 fz0 fz1 fz2
      replace HS : Hid (AskS w W0 _ g lv E (p + 1) false 4 0 (.slice none 0 0)) := Lib.hid HS.out
      obtain ⟨z3, fz3, z0, z1, z2, fz0, fz1, fz2⟩ := HS.out.go
      obtain ⟨z3, fz3, z0, z1, z2, fz0, fz1, fz2⟩ := HS.out.go
      obtain ⟨r0, r1, r2, f0, f1_, f2_⟩ := HS.out.res
      have HGA := Lib.hid (askArgs_any (4 : Int))
      rw [show arity (4 : Int) = 0 from rfl] at HGA
      go_wp2_with fail
      refine (HGA.out _).mono ?_
      rintro r w9 ⟨rfl, rfl⟩
      go_wp2
      obtain ⟨d0, d1, d2, hrd, hgr, -⟩ := HS.out.done
      unfold resW at d0 d1 d2
      exact bodyPost_ret (v := .agg #[.int .i64 4, .int .i64 0, .slice none 0 0]) (by simp [results, d0, d1, d2, go_sem]) rfl (leaf_res (fun e => by cases e) (fun _ => rfl) hrd hgr)

set_option maxRecDepth 20000 in
set_option maxHeartbeats 4000000 in
theorem doc_any (l : List Tok) (lv : Value) (p E g kk : Nat) (D : Int) (rec : Option (Nat → PR Ask)) (w0 w : World) (hl : Sl tokR w0 lv l) (hn : l.length ≤ 6000) (hok : ∀ t ∈ l, TokOk t) (h0 : Bel w0 w) (hg : w0.heap.size ≤ g) (h : Rd w g lv p E false) (ht : tk l p lparB = false) (hw : wordP l unK p = some kk)
    (hkk : kk = 1 ∨ kk = 2 ∨ kk = 3):
    Calls Tryd.prog 34 #[.pointer (some ⟨g, 0, none⟩), .int .i64 D] w fun r w' => RdRes w g lv E (unFin kk rec (nP l kk (p + 1))) r w' := by
  obtain ⟨hku, hk1, hk14, hkt, hp⟩ := un_word hw
  have htx : tx l p false ≠ lparB := fun e => by
    rw [tk_tx (by decide), decide_eq_false_iff_not] at ht
    exact ht e
  have HTX := Lib.hid (fun W q fl (hb : Bel w0 W) (hq : q ≤ l.length) (h : Rd W g lv q E fl) => text_any l lv q E g fl W (hl.keep hb) hn hq h)
  have HND := Lib.hid (fun W q fl s (hb : Bel w0 W) (hq : q ≤ l.length) (h : Rd W g lv q E fl) => need_any l lv q E g fl s W (hl.keep hb) hn hq h)
  have HN2 : Hid (needS l p false (wordB kk) = (p + 1, false)) := Lib.hid (needS_yes hkt)
  have HS := Lib.hid (AskS.start (E := E) h)
  have e40 : ((tx l p false).toList == [40]) = false := lit_false htx
  have HWY : Hid (∀ k : Nat, 1 ≤ k → k < 15 → arity (k : Int) < 2 → tx l p false = wordB k → wordP l unK p = some k) := Lib.hid fun k h1 h2 h3 e => (wordP_un ⟨k, h2⟩).2 ⟨(mem_unK ⟨k, h2⟩).2 ⟨h1, h3⟩, e⟩
  have HWN : Hid (∀ k : Nat, k < 15 → wordP l unK p = some k → arity (k : Int) < 2 ∧ tx l p false = wordB k) := Lib.hid fun k h2 e => by
    obtain ⟨h3, h4⟩ := (wordP_un ⟨k, h2⟩).1 e
    exact ⟨((mem_unK ⟨k, h2⟩).1 h3).2, h4⟩
  have HWK : Hid (wordP l unK p = some kk) := Lib.hid hw
  have hup : upTo (wordP l unK p) 1 = 0 := by rw [hw]; unfold upTo; simp only []; rw [if_neg (by omega)]
  have hup15 : upTo (wordP l unK p) 15 = kk := by rw [hw]; unfold upTo; simp only []; rw [if_pos (by omega)]
  clear h ht htx hw hkt
  go_enter Tryd.func34, Tryd.ntmps34
  go_upto_region 2 with fail
  generalize (w.alloc (.cells #[.int .i64 0, .int .i64 0, .slice none 0 0] 24)).alloc (.cells #[.int .i64 0, .int .i64 0, .slice none 0 0] 24) = W0 at *
  go_wp2_with fail
  refine (HTX.out _ p false (grownBel h0 hg HS.out.grew) (by omega) HS.out.1).mono ?_
  rintro r w1 ⟨rfl, hb⟩
  replace HS := Lib.hid (HS.out.keep hb)
  clear hb
  go_wp2
  have HX : Hid (AskS w W0 w1 g lv E p false (upTo (wordP l unK p) 1) 0 (.slice none 0 0)) := Lib.hid (by rw [hup]; exact HS.out)
  clear e40 hup
  go_loopw [9] (fun t wr => ∃ k : Nat, 1 ≤ k ∧ k ≤ 15 ∧ t = .int .i64 k ∧ Hid (AskS w W0 wr g lv E p false (upTo (wordP l unK p) k) 0 (.slice none 0 0))) (fun t _ => 15 - (intOf t).toNat)
  case atStart => exact ⟨1, by omega, by omega, rfl, HX⟩
  case round =>
    obtain ⟨k, hk1', hk, rfl, HY⟩ := hrel
    clear HX HS
    by_cases hlt : k < 15
    · have hd : decide ((k : Int) ≤ 14) = true := decide_eq_true (by omega)
      have HGA := Lib.hid (askArgs_any (k : Int))
      have HW := Lib.hid (askWord_any k (by omega))
      go_wp2_with fail
      refine (HGA.out _).mono ?_
      rintro r w4 ⟨rfl, rfl⟩
      by_cases ha : arity (k : Int) < 2
      · have hd2 : decide (arity (k : Int) < 2) = true := decide_eq_true ha
        by_cases hs : tx l p false = wordB k
        · have hK := HWY.out k hk1' hlt ha hs
          have hwe : ((tx l p false).toList == (wordB k).toList) = true := by rw [hs]; simp
          clear ha hs
          generalize arity (k : Int) = a at *
          go_wp2_with fail
          refine (HTX.out _ p false (grownBel h0 hg HY.out.grew) (by omega) HY.out.1).mono ?_
          rintro r w5 ⟨rfl, hb3⟩
          replace HY := Lib.hid (HY.out.keep hb3)
          clear hb3
          go_wp2_with fail
          refine (HW.out _).mono ?_
          rintro r w6 ⟨rfl, hb4⟩
          replace HY := Lib.hid (HY.out.keep hb4)
          clear hb4
          obtain ⟨-, -, z0, z1, z2, fz0, fz1, fz2⟩ := HY.out.go
          go_wp2
          go_roundw
          case rel => exact ⟨k + 1, by omega, by omega, by go_num, Lib.hid (by rw [upTo_yes hK]; exact HY.out.put0 k)⟩
          case measure => simp [intOf]; omega
        · have hK : wordP l unK p ≠ some k := fun e => hs (HWN.out k hlt e).2
          have hwe : ((tx l p false).toList == (wordB k).toList) = false := str_false hs
          clear ha hs
          generalize arity (k : Int) = a at *
          go_wp2_with fail
          refine (HTX.out _ p false (grownBel h0 hg HY.out.grew) (by omega) HY.out.1).mono ?_
          rintro r w5 ⟨rfl, hb3⟩
          replace HY := Lib.hid (HY.out.keep hb3)
          clear hb3
          go_wp2_with fail
          refine (HW.out _).mono ?_
          rintro r w6 ⟨rfl, hb4⟩
          replace HY := Lib.hid (HY.out.keep hb4)
          clear hb4
          go_wp2
          go_roundw
          case rel => exact ⟨k + 1, by omega, by omega, by go_num, Lib.hid (by rw [upTo_no hK]; exact HY.out)⟩
          case measure => simp [intOf]; omega
      · have hd2 : decide (arity (k : Int) < 2) = false := decide_eq_false ha
        have hK : wordP l unK p ≠ some k := fun e => ha (HWN.out k hlt e).1
        clear ha
        generalize arity (k : Int) = a at *
        go_wp2
        go_roundw
        case rel => exact ⟨k + 1, by omega, by omega, by go_num, Lib.hid (by rw [upTo_no hK]; exact HY.out)⟩
        case measure => simp [intOf]; omega
    · obtain rfl : k = 15 := by omega
      have hd : decide (((15 : Nat) : Int) ≤ 14) = false := decide_eq_false (by omega)
      have HS : Hid (AskS w W0 wr g lv E p false kk 0 (.slice none 0 0)) := Lib.hid (by rw [← hup15]; exact HY.out)
      clear HY HWY HWN HWK hup15
      obtain ⟨-, -, z0, z1, z2, fz0, fz1, fz2⟩ := HS.out.go
      have hk0 : ((kk : Int) == 0) = false := by simp; omega
      have HW := Lib.hid (askWord_any kk (by omega))
      go_wp2_with fail
      refine (HW.out _).mono ?_
      rintro r w4 ⟨rfl, hb4⟩
      replace HS := Lib.hid (HS.out.keep hb4)
      clear hb4 z0 z1 z2 fz0 fz1 fz2
      go_wp2_with fail
      refine (HND.out _ p false _ (grownBel h0 hg HS.out.grew) (by omega) HS.out.1).mono ?_
      rintro r w5 ⟨⟨v5, rfl⟩, hp5, hg5⟩
      rw [HN2.out] at hp5
      replace HS := Lib.hid (HS.out.grown hg5 hp5)
      clear hg5 hp5 HN2
      obtain ⟨z3, fz3, z0, z1, z2, fz0, fz1, fz2⟩ := HS.out.go
      have HNM := Lib.hid (fun W q fl (hb : Bel w0 W) (hq : q ≤ l.length) (h : Rd W g lv q E fl) => number_state l lv q E g fl W (hl.keep hb) hn hok hq h)
      have hp7 : p + 1 ≤ l.length := hp
      have HNF := Lib.hid (numS_facts (f := false) hok hp7)
      by_cases ha : tx l (p + 1) false = anyB
      · have HA : Hid (nP l kk (p + 1) = .ok (-1) (p + 2)) := Lib.hid (by unfold nP; rw [if_pos hkk, if_pos (by rw [tk_tx (by decide)]; exact decide_eq_true ha)])
        have hae : ((tx l (p + 1) false).toList == [97, 110, 121]) = true := lit_true ha
        have HN3 : Hid (needS l (p + 1) false ⟨#[97, 110, 121]⟩ = (p + 2, false)) := Lib.hid (needS_yes ha)
        clear ha HNM HNF
        rcases hkk with rfl | rfl | rfl
        · clear z3 fz3 z0 z1 z2 fz0 fz1 fz2
          replace HS : Hid (AskS w W0 _ g lv E (p + 1) false 1 0 (.slice none 0 0)) := Lib.hid HS.out
          obtain ⟨z3, fz3, z0, z1, z2, fz0, fz1, fz2⟩ := HS.out.go
          go_wp2_with fail
          refine (HTX.out _ (p + 1) false (grownBel h0 hg HS.out.grew) hp7 HS.out.1).mono ?_
          rintro r w6 ⟨rfl, hb⟩
          replace HS := Lib.hid (HS.out.keep hb)
          clear hb
          go_wp2_with fail
          refine (HND.out _ (p + 1) false _ (grownBel h0 hg HS.out.grew) hp7 HS.out.1).mono ?_
          rintro r w7 ⟨⟨v7, rfl⟩, hr7, hg7⟩
          rw [HN3.out] at hr7
          replace HS := Lib.hid (HS.out.grown hg7 hr7)
          clear hg7 hr7 z3 fz3 z0 z1 z2 fz0 fz1 fz2
          obtain ⟨z3, fz3, z0, z1, z2, fz0, fz1, fz2⟩ := HS.out.go
          go_upto_region 48 with fail
          clear z3 fz3 z0 z1 z2 fz0 fz1 fz2
          replace HS := Lib.hid (HS.out.put1 (-1))
          generalize w7.setCell ⟨w.heap.size + 1, 1, none⟩ (.int .i64 (-1)) = W8 at *
          obtain ⟨z3, fz3, z0, z1, z2, fz0, fz1, fz2⟩ := HS.out.go
          obtain ⟨r0, r1, r2, f0, f1_, f2_⟩ := HS.out.res
          have HGA := Lib.hid (askArgs_any (1 : Int))
          rw [show arity (1 : Int) = 0 from rfl] at HGA
          go_wp2_with fail
          refine (HGA.out _).mono ?_
          rintro r w9 ⟨rfl, rfl⟩
          go_wp2
          obtain ⟨d0, d1, d2, hrd, hgr, -⟩ := HS.out.done
          unfold resW at d0 d1 d2
          exact bodyPost_ret (v := .agg #[.int .i64 1, .int .i64 (-1), .slice none 0 0]) (by simp [results, d0, d1, d2, go_sem]) rfl (leaf_res (fun e => by cases e) (fun _ => by rw [HA.out]; rfl) hrd hgr)
        · clear z3 fz3 z0 z1 z2 fz0 fz1 fz2
          replace HS : Hid (AskS w W0 _ g lv E (p + 1) false 2 0 (.slice none 0 0)) := Lib.hid HS.out
          obtain ⟨z3, fz3, z0, z1, z2, fz0, fz1, fz2⟩ := HS.out.go
          go_wp2_with fail
          refine (HTX.out _ (p + 1) false (grownBel h0 hg HS.out.grew) hp7 HS.out.1).mono ?_
          rintro r w6 ⟨rfl, hb⟩
          replace HS := Lib.hid (HS.out.keep hb)
          clear hb
          go_wp2_with fail
          refine (HND.out _ (p + 1) false _ (grownBel h0 hg HS.out.grew) hp7 HS.out.1).mono ?_
          rintro r w7 ⟨⟨v7, rfl⟩, hr7, hg7⟩
          rw [HN3.out] at hr7
          replace HS := Lib.hid (HS.out.grown hg7 hr7)
          clear hg7 hr7 z3 fz3 z0 z1 z2 fz0 fz1 fz2
          obtain ⟨z3, fz3, z0, z1, z2, fz0, fz1, fz2⟩ := HS.out.go
          go_upto_region 48 with fail
          clear z3 fz3 z0 z1 z2 fz0 fz1 fz2
          replace HS := Lib.hid (HS.out.put1 (-1))
          generalize w7.setCell ⟨w.heap.size + 1, 1, none⟩ (.int .i64 (-1)) = W8 at *
          obtain ⟨z3, fz3, z0, z1, z2, fz0, fz1, fz2⟩ := HS.out.go
          obtain ⟨r0, r1, r2, f0, f1_, f2_⟩ := HS.out.res
          have HGA := Lib.hid (askArgs_any (2 : Int))
          rw [show arity (2 : Int) = 0 from rfl] at HGA
          go_wp2_with fail
          refine (HGA.out _).mono ?_
          rintro r w9 ⟨rfl, rfl⟩
          go_wp2
          obtain ⟨d0, d1, d2, hrd, hgr, -⟩ := HS.out.done
          unfold resW at d0 d1 d2
          exact bodyPost_ret (v := .agg #[.int .i64 2, .int .i64 (-1), .slice none 0 0]) (by simp [results, d0, d1, d2, go_sem]) rfl (leaf_res (fun e => by cases e) (fun _ => by rw [HA.out]; rfl) hrd hgr)
        · clear z3 fz3 z0 z1 z2 fz0 fz1 fz2
          replace HS : Hid (AskS w W0 _ g lv E (p + 1) false 3 0 (.slice none 0 0)) := Lib.hid HS.out
          obtain ⟨z3, fz3, z0, z1, z2, fz0, fz1, fz2⟩ := HS.out.go
          go_wp2_with fail
          refine (HTX.out _ (p + 1) false (grownBel h0 hg HS.out.grew) hp7 HS.out.1).mono ?_
          rintro r w6 ⟨rfl, hb⟩
          replace HS := Lib.hid (HS.out.keep hb)
          clear hb
          go_wp2_with fail
          refine (HND.out _ (p + 1) false _ (grownBel h0 hg HS.out.grew) hp7 HS.out.1).mono ?_
          rintro r w7 ⟨⟨v7, rfl⟩, hr7, hg7⟩
          rw [HN3.out] at hr7
          replace HS := Lib.hid (HS.out.grown hg7 hr7)
          clear hg7 hr7 z3 fz3 z0 z1 z2 fz0 fz1 fz2
          obtain ⟨z3, fz3, z0, z1, z2, fz0, fz1, fz2⟩ := HS.out.go
          go_upto_region 48 with fail
          clear z3 fz3 z0 z1 z2 fz0 fz1 fz2
          replace HS := Lib.hid (HS.out.put1 (-1))
          generalize w7.setCell ⟨w.heap.size + 1, 1, none⟩ (.int .i64 (-1)) = W8 at *
          obtain ⟨z3, fz3, z0, z1, z2, fz0, fz1, fz2⟩ := HS.out.go
          obtain ⟨r0, r1, r2, f0, f1_, f2_⟩ := HS.out.res
          have HGA := Lib.hid (askArgs_any (3 : Int))
          rw [show arity (3 : Int) = 0 from rfl] at HGA
          go_wp2_with fail
          refine (HGA.out _).mono ?_
          rintro r w9 ⟨rfl, rfl⟩
          go_wp2
          obtain ⟨d0, d1, d2, hrd, hgr, -⟩ := HS.out.done
          unfold resW at d0 d1 d2
          exact bodyPost_ret (v := .agg #[.int .i64 3, .int .i64 (-1), .slice none 0 0]) (by simp [results, d0, d1, d2, go_sem]) rfl (leaf_res (fun e => by cases e) (fun _ => by rw [HA.out]; rfl) hrd hgr)
      · have HA : Hid (nP l kk (p + 1) = numP l false (p + 1)) := Lib.hid (by unfold nP; rw [if_pos hkk, if_neg (by rw [tk_tx (by decide), decide_eq_false ha]; decide)]; rfl)
        have hae : ((tx l (p + 1) false).toList == [97, 110, 121]) = false := lit_false ha
        clear ha HND
        rcases hkk with rfl | rfl | rfl
        · clear z3 fz3 z0 z1 z2 fz0 fz1 fz2
          replace HS : Hid (AskS w W0 _ g lv E (p + 1) false 1 0 (.slice none 0 0)) := Lib.hid HS.out
          obtain ⟨z3, fz3, z0, z1, z2, fz0, fz1, fz2⟩ := HS.out.go
          go_wp2_with fail
          refine (HTX.out _ (p + 1) false (grownBel h0 hg HS.out.grew) hp7 HS.out.1).mono ?_
          rintro r w6 ⟨rfl, hb⟩
          replace HS := Lib.hid (HS.out.keep hb)
          clear hb
          go_wp2_with fail
          refine (HNM.out _ (p + 1) false (grownBel h0 hg HS.out.grew) hp7 HS.out.1).mono ?_
          rintro r w7 ⟨rfl, hr7, hg7⟩
          replace HS := Lib.hid (HS.out.grown hg7 hr7)
          clear hg7 hr7 z3 fz3 z0 z1 z2 fz0 fz1 fz2
          obtain ⟨z3, fz3, z0, z1, z2, fz0, fz1, fz2⟩ := HS.out.go
          go_upto_region 48 with fail
          clear z3 fz3 z0 z1 z2 fz0 fz1 fz2
          replace HS := Lib.hid (HS.out.put1 (numS l (p + 1) false).1)
          generalize w7.setCell ⟨w.heap.size + 1, 1, none⟩ (.int .i64 (numS l (p + 1) false).1) = W8 at *
          obtain ⟨z3, fz3, z0, z1, z2, fz0, fz1, fz2⟩ := HS.out.go
          obtain ⟨r0, r1, r2, f0, f1_, f2_⟩ := HS.out.res
          have HGA := Lib.hid (askArgs_any (1 : Int))
          rw [show arity (1 : Int) = 0 from rfl] at HGA
          go_wp2_with fail
          refine (HGA.out _).mono ?_
          rintro r w9 ⟨rfl, rfl⟩
          go_wp2
          obtain ⟨d0, d1, d2, hrd, hgr, -⟩ := HS.out.done
          unfold resW at d0 d1 d2
          exact bodyPost_ret (v := .agg #[.int .i64 1, .int .i64 (numS l (p + 1) false).1, .slice none 0 0]) (by simp [results, d0, d1, d2, go_sem]) rfl (leaf_res (fun e => by rcases HNF.out.2.2.2.1 e with h | h; cases h; rw [HA.out, h]; rfl) (fun e => by rw [HA.out, (HNF.out.2.2.2.2 e).2]; rfl) hrd hgr)
        · clear z3 fz3 z0 z1 z2 fz0 fz1 fz2
          replace HS : Hid (AskS w W0 _ g lv E (p + 1) false 2 0 (.slice none 0 0)) := Lib.hid HS.out
          obtain ⟨z3, fz3, z0, z1, z2, fz0, fz1, fz2⟩ := HS.out.go
          go_wp2_with fail
          refine (HTX.out _ (p + 1) false (grownBel h0 hg HS.out.grew) hp7 HS.out.1).mono ?_
          rintro r w6 ⟨rfl, hb⟩
          replace HS := Lib.hid (HS.out.keep hb)
          clear hb
          go_wp2_with fail
          refine (HNM.out _ (p + 1) false (grownBel h0 hg HS.out.grew) hp7 HS.out.1).mono ?_
          rintro r w7 ⟨rfl, hr7, hg7⟩
          replace HS := Lib.hid (HS.out.grown hg7 hr7)
          clear hg7 hr7 z3 fz3 z0 z1 z2 fz0 fz1 fz2
          obtain ⟨z3, fz3, z0, z1, z2, fz0, fz1, fz2⟩ := HS.out.go
          go_upto_region 48 with fail
          clear z3 fz3 z0 z1 z2 fz0 fz1 fz2
          replace HS := Lib.hid (HS.out.put1 (numS l (p + 1) false).1)
          generalize w7.setCell ⟨w.heap.size + 1, 1, none⟩ (.int .i64 (numS l (p + 1) false).1) = W8 at *
          obtain ⟨z3, fz3, z0, z1, z2, fz0, fz1, fz2⟩ := HS.out.go
          obtain ⟨r0, r1, r2, f0, f1_, f2_⟩ := HS.out.res
          have HGA := Lib.hid (askArgs_any (2 : Int))
          rw [show arity (2 : Int) = 0 from rfl] at HGA
          go_wp2_with fail
          refine (HGA.out _).mono ?_
          rintro r w9 ⟨rfl, rfl⟩
          go_wp2
          obtain ⟨d0, d1, d2, hrd, hgr, -⟩ := HS.out.done
          unfold resW at d0 d1 d2
          exact bodyPost_ret (v := .agg #[.int .i64 2, .int .i64 (numS l (p + 1) false).1, .slice none 0 0]) (by simp [results, d0, d1, d2, go_sem]) rfl (leaf_res (fun e => by rcases HNF.out.2.2.2.1 e with h | h; cases h; rw [HA.out, h]; rfl) (fun e => by rw [HA.out, (HNF.out.2.2.2.2 e).2]; rfl) hrd hgr)
        · clear z3 fz3 z0 z1 z2 fz0 fz1 fz2
          replace HS : Hid (AskS w W0 _ g lv E (p + 1) false 3 0 (.slice none 0 0)) := Lib.hid HS.out
          obtain ⟨z3, fz3, z0, z1, z2, fz0, fz1, fz2⟩ := HS.out.go
          go_wp2_with fail
          refine (HTX.out _ (p + 1) false (grownBel h0 hg HS.out.grew) hp7 HS.out.1).mono ?_
          rintro r w6 ⟨rfl, hb⟩
          replace HS := Lib.hid (HS.out.keep hb)
          clear hb
          go_wp2_with fail
          refine (HNM.out _ (p + 1) false (grownBel h0 hg HS.out.grew) hp7 HS.out.1).mono ?_
          rintro r w7 ⟨rfl, hr7, hg7⟩
          replace HS := Lib.hid (HS.out.grown hg7 hr7)
          clear hg7 hr7 z3 fz3 z0 z1 z2 fz0 fz1 fz2
          obtain ⟨z3, fz3, z0, z1, z2, fz0, fz1, fz2⟩ := HS.out.go
          go_upto_region 48 with fail
          clear z3 fz3 z0 z1 z2 fz0 fz1 fz2
          replace HS := Lib.hid (HS.out.put1 (numS l (p + 1) false).1)
          generalize w7.setCell ⟨w.heap.size + 1, 1, none⟩ (.int .i64 (numS l (p + 1) false).1) = W8 at *
          obtain ⟨z3, fz3, z0, z1, z2, fz0, fz1, fz2⟩ := HS.out.go
          obtain ⟨r0, r1, r2, f0, f1_, f2_⟩ := HS.out.res
          have HGA := Lib.hid (askArgs_any (3 : Int))
          rw [show arity (3 : Int) = 0 from rfl] at HGA
          go_wp2_with fail
          refine (HGA.out _).mono ?_
          rintro r w9 ⟨rfl, rfl⟩
          go_wp2
          obtain ⟨d0, d1, d2, hrd, hgr, -⟩ := HS.out.done
          unfold resW at d0 d1 d2
          exact bodyPost_ret (v := .agg #[.int .i64 3, .int .i64 (numS l (p + 1) false).1, .slice none 0 0]) (by simp [results, d0, d1, d2, go_sem]) rfl (leaf_res (fun e => by rcases HNF.out.2.2.2.1 e with h | h; cases h; rw [HA.out, h]; rfl) (fun e => by rw [HA.out, (HNF.out.2.2.2.2 e).2]; rfl) hrd hgr)
end Go.Proofs.YtegknpffiaeohaaDoor

namespace Go.Proofs.YtegknpffiaeohaaDoor
open Go.RowKit

/-- behind a sign: whether it has failed -/
def sgnS (l : List Tok) (p : Nat) : Bool := decide (tx l p false = zeroB)
theorem kP_sign {l : List Tok} {p : Nat} (h : tx l p false = dashB) : kP l true p = if sgnS l (p + 1) = true then .fail (p + 1) else match numP l false (p + 1) with
    | .ok n q => .ok (-n) q
    | .fail x => .fail x := by
  unfold kP minus sgnS
  rw [tk_tx (by decide), decide_eq_true h]
  rw [if_pos (by rfl), numP_sign]
  by_cases hz : tx l (p + 1) false = zeroB
  · rw [if_pos hz, if_pos (decide_eq_true hz)]
  · rw [if_neg hz, if_neg (by simpa using hz)]
    all_goals (cases numP l false (p + 1) <;> rfl)
theorem kP_plus {l : List Tok} {p : Nat} (h : tx l p false ≠ dashB) : kP l true p = numP l false p := by
  unfold kP minus
  rw [tk_tx (by decide), decide_eq_false h]
  rfl

set_option maxRecDepth 20000 in
set_option maxHeartbeats 4000000 in
theorem doc_sign (l : List Tok) (lv : Value) (p E g kk : Nat) (D : Int) (rec : Option (Nat → PR Ask)) (w0 w : World) (hl : Sl tokR w0 lv l) (hn : l.length ≤ 6000) (hok : ∀ t ∈ l, TokOk t) (h0 : Bel w0 w) (hg : w0.heap.size ≤ g) (h : Rd w g lv p E false) (ht : tk l p lparB = false) (hw : wordP l unK p = some kk)
    (hkk : kk = 5 ∨ kk = 6):
    Calls Tryd.prog 34 #[.pointer (some ⟨g, 0, none⟩), .int .i64 D] w fun r w' => RdRes w g lv E (unFin kk rec (nP l kk (p + 1))) r w' := by
  obtain ⟨hku, hk1, hk14, hkt, hp⟩ := un_word hw
  have htx : tx l p false ≠ lparB := fun e => by
    rw [tk_tx (by decide), decide_eq_false_iff_not] at ht
    exact ht e
  have HTX := Lib.hid (fun W q fl (hb : Bel w0 W) (hq : q ≤ l.length) (h : Rd W g lv q E fl) => text_any l lv q E g fl W (hl.keep hb) hn hq h)
  have HND := Lib.hid (fun W q fl s (hb : Bel w0 W) (hq : q ≤ l.length) (h : Rd W g lv q E fl) => need_any l lv q E g fl s W (hl.keep hb) hn hq h)
  have HN2 : Hid (needS l p false (wordB kk) = (p + 1, false)) := Lib.hid (needS_yes hkt)
  have HS := Lib.hid (AskS.start (E := E) h)
  have e40 : ((tx l p false).toList == [40]) = false := lit_false htx
  have HWY : Hid (∀ k : Nat, 1 ≤ k → k < 15 → arity (k : Int) < 2 → tx l p false = wordB k → wordP l unK p = some k) := Lib.hid fun k h1 h2 h3 e => (wordP_un ⟨k, h2⟩).2 ⟨(mem_unK ⟨k, h2⟩).2 ⟨h1, h3⟩, e⟩
  have HWN : Hid (∀ k : Nat, k < 15 → wordP l unK p = some k → arity (k : Int) < 2 ∧ tx l p false = wordB k) := Lib.hid fun k h2 e => by
    obtain ⟨h3, h4⟩ := (wordP_un ⟨k, h2⟩).1 e
    exact ⟨((mem_unK ⟨k, h2⟩).1 h3).2, h4⟩
  have HWK : Hid (wordP l unK p = some kk) := Lib.hid hw
  have hup : upTo (wordP l unK p) 1 = 0 := by rw [hw]; unfold upTo; simp only []; rw [if_neg (by omega)]
  have hup15 : upTo (wordP l unK p) 15 = kk := by rw [hw]; unfold upTo; simp only []; rw [if_pos (by omega)]
  clear h ht htx hw hkt
  go_enter Tryd.func34, Tryd.ntmps34
  go_upto_region 2 with fail
  generalize (w.alloc (.cells #[.int .i64 0, .int .i64 0, .slice none 0 0] 24)).alloc (.cells #[.int .i64 0, .int .i64 0, .slice none 0 0] 24) = W0 at *
  go_wp2_with fail
  refine (HTX.out _ p false (grownBel h0 hg HS.out.grew) (by omega) HS.out.1).mono ?_
  rintro r w1 ⟨rfl, hb⟩
  replace HS := Lib.hid (HS.out.keep hb)
  clear hb
  go_wp2
  have HX : Hid (AskS w W0 w1 g lv E p false (upTo (wordP l unK p) 1) 0 (.slice none 0 0)) := Lib.hid (by rw [hup]; exact HS.out)
  clear e40 hup
  go_loopw [9] (fun t wr => ∃ k : Nat, 1 ≤ k ∧ k ≤ 15 ∧ t = .int .i64 k ∧ Hid (AskS w W0 wr g lv E p false (upTo (wordP l unK p) k) 0 (.slice none 0 0))) (fun t _ => 15 - (intOf t).toNat)
  case atStart => exact ⟨1, by omega, by omega, rfl, HX⟩
  case round =>
    obtain ⟨k, hk1', hk, rfl, HY⟩ := hrel
    clear HX HS
    by_cases hlt : k < 15
    · have hd : decide ((k : Int) ≤ 14) = true := decide_eq_true (by omega)
      have HGA := Lib.hid (askArgs_any (k : Int))
      have HW := Lib.hid (askWord_any k (by omega))
      go_wp2_with fail
      refine (HGA.out _).mono ?_
      rintro r w4 ⟨rfl, rfl⟩
      by_cases ha : arity (k : Int) < 2
      · have hd2 : decide (arity (k : Int) < 2) = true := decide_eq_true ha
        by_cases hs : tx l p false = wordB k
        · have hK := HWY.out k hk1' hlt ha hs
          have hwe : ((tx l p false).toList == (wordB k).toList) = true := by rw [hs]; simp
          clear ha hs
          generalize arity (k : Int) = a at *
          go_wp2_with fail
          refine (HTX.out _ p false (grownBel h0 hg HY.out.grew) (by omega) HY.out.1).mono ?_
          rintro r w5 ⟨rfl, hb3⟩
          replace HY := Lib.hid (HY.out.keep hb3)
          clear hb3
          go_wp2_with fail
          refine (HW.out _).mono ?_
          rintro r w6 ⟨rfl, hb4⟩
          replace HY := Lib.hid (HY.out.keep hb4)
          clear hb4
          obtain ⟨-, -, z0, z1, z2, fz0, fz1, fz2⟩ := HY.out.go
          go_wp2
          go_roundw
          case rel => exact ⟨k + 1, by omega, by omega, by go_num, Lib.hid (by rw [upTo_yes hK]; exact HY.out.put0 k)⟩
          case measure => simp [intOf]; omega
        · have hK : wordP l unK p ≠ some k := fun e => hs (HWN.out k hlt e).2
          have hwe : ((tx l p false).toList == (wordB k).toList) = false := str_false hs
          clear ha hs
          generalize arity (k : Int) = a at *
          go_wp2_with fail
          refine (HTX.out _ p false (grownBel h0 hg HY.out.grew) (by omega) HY.out.1).mono ?_
          rintro r w5 ⟨rfl, hb3⟩
          replace HY := Lib.hid (HY.out.keep hb3)
          clear hb3
          go_wp2_with fail
          refine (HW.out _).mono ?_
          rintro r w6 ⟨rfl, hb4⟩
          replace HY := Lib.hid (HY.out.keep hb4)
          clear hb4
          go_wp2
          go_roundw
          case rel => exact ⟨k + 1, by omega, by omega, by go_num, Lib.hid (by rw [upTo_no hK]; exact HY.out)⟩
          case measure => simp [intOf]; omega
      · have hd2 : decide (arity (k : Int) < 2) = false := decide_eq_false ha
        have hK : wordP l unK p ≠ some k := fun e => ha (HWN.out k hlt e).1
        clear ha
        generalize arity (k : Int) = a at *
        go_wp2
        go_roundw
        case rel => exact ⟨k + 1, by omega, by omega, by go_num, Lib.hid (by rw [upTo_no hK]; exact HY.out)⟩
        case measure => simp [intOf]; omega
    · obtain rfl : k = 15 := by omega
      have hd : decide (((15 : Nat) : Int) ≤ 14) = false := decide_eq_false (by omega)
      have HS : Hid (AskS w W0 wr g lv E p false kk 0 (.slice none 0 0)) := Lib.hid (by rw [← hup15]; exact HY.out)
      clear HY HWY HWN HWK hup15
      obtain ⟨-, -, z0, z1, z2, fz0, fz1, fz2⟩ := HS.out.go
      have hk0 : ((kk : Int) == 0) = false := by simp; omega
      have HW := Lib.hid (askWord_any kk (by omega))
      go_wp2_with fail
      refine (HW.out _).mono ?_
      rintro r w4 ⟨rfl, hb4⟩
      replace HS := Lib.hid (HS.out.keep hb4)
      clear hb4 z0 z1 z2 fz0 fz1 fz2
      go_wp2_with fail
      refine (HND.out _ p false _ (grownBel h0 hg HS.out.grew) (by omega) HS.out.1).mono ?_
      rintro r w5 ⟨⟨v5, rfl⟩, hp5, hg5⟩
      rw [HN2.out] at hp5
      replace HS := Lib.hid (HS.out.grown hg5 hp5)
      clear hg5 hp5 HN2
      obtain ⟨z3, fz3, z0, z1, z2, fz0, fz1, fz2⟩ := HS.out.go
      have HNM := Lib.hid (fun W q fl (hb : Bel w0 W) (hq : q ≤ l.length) (h : Rd W g lv q E fl) => number_state l lv q E g fl W (hl.keep hb) hn hok hq h)
      have hp7 : p + 1 ≤ l.length := hp
      have HK : Hid (nP l kk (p + 1) = kP l true (p + 1)) := Lib.hid (by unfold nP; rw [if_neg (by omega), if_pos hkk])
      by_cases ha : tx l (p + 1) false = dashB
      · have hp8 : p + 2 ≤ l.length := tx_lt (s := dashB) (by decide) ha
        have HA := Lib.hid (kP_sign ha)
        have hae : ((tx l (p + 1) false).toList == [45]) = true := lit_true ha
        have HN3 : Hid (needS l (p + 1) false ⟨#[45]⟩ = (p + 2, false)) := Lib.hid (needS_yes ha)
        clear ha
        by_cases hz : tx l (p + 2) false = zeroB
        · have hze : ((tx l (p + 2) false).toList == [48]) = true := lit_true hz
          have hzs : sgnS l (p + 2) = true := decide_eq_true hz
          have HNF := Lib.hid (numS_facts (f := true) hok hp8)
          have HNT : Hid (numS l (p + 2) true = (0, p + 2, true)) := Lib.hid rfl
          clear hz
          rcases hkk with rfl | rfl
          · clear z3 fz3 z0 z1 z2 fz0 fz1 fz2
            replace HS : Hid (AskS w W0 _ g lv E (p + 1) false 5 0 (.slice none 0 0)) := Lib.hid HS.out
            obtain ⟨z3, fz3, z0, z1, z2, fz0, fz1, fz2⟩ := HS.out.go
            go_wp2_with fail
            refine (HTX.out _ (p + 1) false (grownBel h0 hg HS.out.grew) hp7 HS.out.1).mono ?_
            rintro r w6 ⟨rfl, hb⟩
            replace HS := Lib.hid (HS.out.keep hb)
            clear hb
            go_wp2_with fail
            refine (HND.out _ (p + 1) false _ (grownBel h0 hg HS.out.grew) hp7 HS.out.1).mono ?_
            rintro r w7 ⟨⟨v7, rfl⟩, hr7, hg7⟩
            rw [HN3.out] at hr7
            replace HS := Lib.hid (HS.out.grown hg7 hr7)
            clear hg7 hr7 z3 fz3 z0 z1 z2 fz0 fz1 fz2
            go_wp2_with fail
            refine (HTX.out _ (p + 2) false (grownBel h0 hg HS.out.grew) hp8 HS.out.1).mono ?_
            rintro r w8 ⟨rfl, hb⟩
            replace HS := Lib.hid (HS.out.keep hb)
            clear hb
            obtain ⟨z3, fz3, z0, z1, z2, fz0, fz1, fz2⟩ := HS.out.go
            replace HS := Lib.hid HS.out.bad
            go_wp2_with fail
            refine (HNM.out _ (p + 2) true (grownBel h0 hg HS.out.grew) hp8 HS.out.1).mono ?_
            rintro r w9 ⟨rfl, hr9, hg9⟩
            rw [HNT.out] at hr9 ⊢
            replace HS := Lib.hid (HS.out.grown hg9 hr9)
            clear hg9 hr9 z3 fz3 z0 z1 z2 fz0 fz1 fz2
            obtain ⟨z3, fz3, z0, z1, z2, fz0, fz1, fz2⟩ := HS.out.go
            go_upto_region 48 with fail
            clear z3 fz3 z0 z1 z2 fz0 fz1 fz2
            replace HS := Lib.hid (HS.out.put1 0)
            generalize w9.setCell ⟨w.heap.size + 1, 1, none⟩ (.int .i64 0) = W8 at *
            obtain ⟨z3, fz3, z0, z1, z2, fz0, fz1, fz2⟩ := HS.out.go
            obtain ⟨r0, r1, r2, f0, f1_, f2_⟩ := HS.out.res
            have HGA := Lib.hid (askArgs_any (5 : Int))
            rw [show arity (5 : Int) = 0 from rfl] at HGA
            go_wp2_with fail
            refine (HGA.out _).mono ?_
            rintro r w9 ⟨rfl, rfl⟩
            go_wp2
            obtain ⟨d0, d1, d2, hrd, hgr, -⟩ := HS.out.done
            unfold resW at d0 d1 d2
            exact bodyPost_ret (v := .agg #[.int .i64 5, .int .i64 0, .slice none 0 0]) (by simp [results, d0, d1, d2, go_sem]) rfl (leaf_res (fun _ => by rw [HK.out, HA.out, if_pos hzs]; rfl) (fun e => by cases e) hrd hgr)
          · clear z3 fz3 z0 z1 z2 fz0 fz1 fz2
            replace HS : Hid (AskS w W0 _ g lv E (p + 1) false 6 0 (.slice none 0 0)) := Lib.hid HS.out
            obtain ⟨z3, fz3, z0, z1, z2, fz0, fz1, fz2⟩ := HS.out.go
            go_wp2_with fail
            refine (HTX.out _ (p + 1) false (grownBel h0 hg HS.out.grew) hp7 HS.out.1).mono ?_
            rintro r w6 ⟨rfl, hb⟩
            replace HS := Lib.hid (HS.out.keep hb)
            clear hb
            go_wp2_with fail
            refine (HND.out _ (p + 1) false _ (grownBel h0 hg HS.out.grew) hp7 HS.out.1).mono ?_
            rintro r w7 ⟨⟨v7, rfl⟩, hr7, hg7⟩
            rw [HN3.out] at hr7
            replace HS := Lib.hid (HS.out.grown hg7 hr7)
            clear hg7 hr7 z3 fz3 z0 z1 z2 fz0 fz1 fz2
            go_wp2_with fail
            refine (HTX.out _ (p + 2) false (grownBel h0 hg HS.out.grew) hp8 HS.out.1).mono ?_
            rintro r w8 ⟨rfl, hb⟩
            replace HS := Lib.hid (HS.out.keep hb)
            clear hb
            obtain ⟨z3, fz3, z0, z1, z2, fz0, fz1, fz2⟩ := HS.out.go
            replace HS := Lib.hid HS.out.bad
            go_wp2_with fail
            refine (HNM.out _ (p + 2) true (grownBel h0 hg HS.out.grew) hp8 HS.out.1).mono ?_
            rintro r w9 ⟨rfl, hr9, hg9⟩
            rw [HNT.out] at hr9 ⊢
            replace HS := Lib.hid (HS.out.grown hg9 hr9)
            clear hg9 hr9 z3 fz3 z0 z1 z2 fz0 fz1 fz2
            obtain ⟨z3, fz3, z0, z1, z2, fz0, fz1, fz2⟩ := HS.out.go
            go_upto_region 48 with fail
            clear z3 fz3 z0 z1 z2 fz0 fz1 fz2
            replace HS := Lib.hid (HS.out.put1 0)
            generalize w9.setCell ⟨w.heap.size + 1, 1, none⟩ (.int .i64 0) = W8 at *
            obtain ⟨z3, fz3, z0, z1, z2, fz0, fz1, fz2⟩ := HS.out.go
            obtain ⟨r0, r1, r2, f0, f1_, f2_⟩ := HS.out.res
            have HGA := Lib.hid (askArgs_any (6 : Int))
            rw [show arity (6 : Int) = 0 from rfl] at HGA
            go_wp2_with fail
            refine (HGA.out _).mono ?_
            rintro r w9 ⟨rfl, rfl⟩
            go_wp2
            obtain ⟨d0, d1, d2, hrd, hgr, -⟩ := HS.out.done
            unfold resW at d0 d1 d2
            exact bodyPost_ret (v := .agg #[.int .i64 6, .int .i64 0, .slice none 0 0]) (by simp [results, d0, d1, d2, go_sem]) rfl (leaf_res (fun _ => by rw [HK.out, HA.out, if_pos hzs]; rfl) (fun e => by cases e) hrd hgr)
        · have hze : ((tx l (p + 2) false).toList == [48]) = false := lit_false hz
          have hzs : sgnS l (p + 2) = false := decide_eq_false hz
          have HNF := Lib.hid (numS_facts (f := false) hok hp8)
          have hnb := HNF.out.1
          clear hz
          rcases hkk with rfl | rfl
          · clear z3 fz3 z0 z1 z2 fz0 fz1 fz2
            replace HS : Hid (AskS w W0 _ g lv E (p + 1) false 5 0 (.slice none 0 0)) := Lib.hid HS.out
            obtain ⟨z3, fz3, z0, z1, z2, fz0, fz1, fz2⟩ := HS.out.go
            go_wp2_with fail
            refine (HTX.out _ (p + 1) false (grownBel h0 hg HS.out.grew) hp7 HS.out.1).mono ?_
            rintro r w6 ⟨rfl, hb⟩
            replace HS := Lib.hid (HS.out.keep hb)
            clear hb
            go_wp2_with fail
            refine (HND.out _ (p + 1) false _ (grownBel h0 hg HS.out.grew) hp7 HS.out.1).mono ?_
            rintro r w7 ⟨⟨v7, rfl⟩, hr7, hg7⟩
            rw [HN3.out] at hr7
            replace HS := Lib.hid (HS.out.grown hg7 hr7)
            clear hg7 hr7 z3 fz3 z0 z1 z2 fz0 fz1 fz2
            go_wp2_with fail
            refine (HTX.out _ (p + 2) false (grownBel h0 hg HS.out.grew) hp8 HS.out.1).mono ?_
            rintro r w8 ⟨rfl, hb⟩
            replace HS := Lib.hid (HS.out.keep hb)
            clear hb
            obtain ⟨z3, fz3, z0, z1, z2, fz0, fz1, fz2⟩ := HS.out.go
            go_wp2_with fail
            refine (HNM.out _ (p + 2) false (grownBel h0 hg HS.out.grew) hp8 HS.out.1).mono ?_
            rintro r w9 ⟨rfl, hr9, hg9⟩
            replace HS := Lib.hid (HS.out.grown hg9 hr9)
            clear hg9 hr9 z3 fz3 z0 z1 z2 fz0 fz1 fz2
            obtain ⟨z3, fz3, z0, z1, z2, fz0, fz1, fz2⟩ := HS.out.go
            generalize numS l (p + 2) false = NS at *
            obtain ⟨n9, p9, f9⟩ := NS
            dsimp only at *
            go_upto_region 48 with fail
            clear z3 fz3 z0 z1 z2 fz0 fz1 fz2
            replace HS := Lib.hid (HS.out.put1 (-n9))
            generalize w9.setCell ⟨w.heap.size + 1, 1, none⟩ (.int .i64 (-n9)) = W8 at *
            obtain ⟨z3, fz3, z0, z1, z2, fz0, fz1, fz2⟩ := HS.out.go
            obtain ⟨r0, r1, r2, f0, f1_, f2_⟩ := HS.out.res
            have HGA := Lib.hid (askArgs_any (5 : Int))
            rw [show arity (5 : Int) = 0 from rfl] at HGA
            go_wp2_with fail
            refine (HGA.out _).mono ?_
            rintro r w9 ⟨rfl, rfl⟩
            go_wp2
            obtain ⟨d0, d1, d2, hrd, hgr, -⟩ := HS.out.done
            unfold resW at d0 d1 d2
            exact bodyPost_ret (v := .agg #[.int .i64 5, .int .i64 (-n9), .slice none 0 0]) (by simp [results, d0, d1, d2, go_sem]) rfl (leaf_res (fun e => by rcases HNF.out.2.2.2.1 e with h | h; cases h; rw [HK.out, HA.out, if_neg (by rw [hzs]; decide), h]; rfl) (fun e => by rw [HK.out, HA.out, if_neg (by rw [hzs]; decide), (HNF.out.2.2.2.2 e).2]; rfl) hrd hgr)
          · clear z3 fz3 z0 z1 z2 fz0 fz1 fz2
            replace HS : Hid (AskS w W0 _ g lv E (p + 1) false 6 0 (.slice none 0 0)) := Lib.hid HS.out
            obtain ⟨z3, fz3, z0, z1, z2, fz0, fz1, fz2⟩ := HS.out.go
            go_wp2_with fail
            refine (HTX.out _ (p + 1) false (grownBel h0 hg HS.out.grew) hp7 HS.out.1).mono ?_
            rintro r w6 ⟨rfl, hb⟩
            replace HS := Lib.hid (HS.out.keep hb)
            clear hb
            go_wp2_with fail
            refine (HND.out _ (p + 1) false _ (grownBel h0 hg HS.out.grew) hp7 HS.out.1).mono ?_
            rintro r w7 ⟨⟨v7, rfl⟩, hr7, hg7⟩
            rw [HN3.out] at hr7
            replace HS := Lib.hid (HS.out.grown hg7 hr7)
            clear hg7 hr7 z3 fz3 z0 z1 z2 fz0 fz1 fz2
            go_wp2_with fail
            refine (HTX.out _ (p + 2) false (grownBel h0 hg HS.out.grew) hp8 HS.out.1).mono ?_
            rintro r w8 ⟨rfl, hb⟩
            replace HS := Lib.hid (HS.out.keep hb)
            clear hb
            obtain ⟨z3, fz3, z0, z1, z2, fz0, fz1, fz2⟩ := HS.out.go
            go_wp2_with fail
            refine (HNM.out _ (p + 2) false (grownBel h0 hg HS.out.grew) hp8 HS.out.1).mono ?_
            rintro r w9 ⟨rfl, hr9, hg9⟩
            replace HS := Lib.hid (HS.out.grown hg9 hr9)
            clear hg9 hr9 z3 fz3 z0 z1 z2 fz0 fz1 fz2
            obtain ⟨z3, fz3, z0, z1, z2, fz0, fz1, fz2⟩ := HS.out.go
            generalize numS l (p + 2) false = NS at *
            obtain ⟨n9, p9, f9⟩ := NS
            dsimp only at *
            go_upto_region 48 with fail
            clear z3 fz3 z0 z1 z2 fz0 fz1 fz2
            replace HS := Lib.hid (HS.out.put1 (-n9))
            generalize w9.setCell ⟨w.heap.size + 1, 1, none⟩ (.int .i64 (-n9)) = W8 at *
            obtain ⟨z3, fz3, z0, z1, z2, fz0, fz1, fz2⟩ := HS.out.go
            obtain ⟨r0, r1, r2, f0, f1_, f2_⟩ := HS.out.res
            have HGA := Lib.hid (askArgs_any (6 : Int))
            rw [show arity (6 : Int) = 0 from rfl] at HGA
            go_wp2_with fail
            refine (HGA.out _).mono ?_
            rintro r w9 ⟨rfl, rfl⟩
            go_wp2
            obtain ⟨d0, d1, d2, hrd, hgr, -⟩ := HS.out.done
            unfold resW at d0 d1 d2
            exact bodyPost_ret (v := .agg #[.int .i64 6, .int .i64 (-n9), .slice none 0 0]) (by simp [results, d0, d1, d2, go_sem]) rfl (leaf_res (fun e => by rcases HNF.out.2.2.2.1 e with h | h; cases h; rw [HK.out, HA.out, if_neg (by rw [hzs]; decide), h]; rfl) (fun e => by rw [HK.out, HA.out, if_neg (by rw [hzs]; decide), (HNF.out.2.2.2.2 e).2]; rfl) hrd hgr)
      · have HA := Lib.hid (kP_plus ha)
        have HNF := Lib.hid (numS_facts (f := false) hok hp7)
        have hae : ((tx l (p + 1) false).toList == [45]) = false := lit_false ha
        have hnb := HNF.out.1
        clear ha HND
        rcases hkk with rfl | rfl
        · clear z3 fz3 z0 z1 z2 fz0 fz1 fz2
          replace HS : Hid (AskS w W0 _ g lv E (p + 1) false 5 0 (.slice none 0 0)) := Lib.hid HS.out
          obtain ⟨z3, fz3, z0, z1, z2, fz0, fz1, fz2⟩ := HS.out.go
          go_wp2_with fail
          refine (HTX.out _ (p + 1) false (grownBel h0 hg HS.out.grew) hp7 HS.out.1).mono ?_
          rintro r w6 ⟨rfl, hb⟩
          replace HS := Lib.hid (HS.out.keep hb)
          clear hb
          go_wp2_with fail
          refine (HNM.out _ (p + 1) false (grownBel h0 hg HS.out.grew) hp7 HS.out.1).mono ?_
          rintro r w9 ⟨rfl, hr9, hg9⟩
          replace HS := Lib.hid (HS.out.grown hg9 hr9)
          clear hg9 hr9 z3 fz3 z0 z1 z2 fz0 fz1 fz2
          obtain ⟨z3, fz3, z0, z1, z2, fz0, fz1, fz2⟩ := HS.out.go
          generalize numS l (p + 1) false = NS at *
          obtain ⟨n9, p9, f9⟩ := NS
          dsimp only at *
          go_upto_region 48 with fail
          clear z3 fz3 z0 z1 z2 fz0 fz1 fz2
          replace HS := Lib.hid (HS.out.put1 n9)
          generalize w9.setCell ⟨w.heap.size + 1, 1, none⟩ (.int .i64 n9) = W8 at *
          obtain ⟨z3, fz3, z0, z1, z2, fz0, fz1, fz2⟩ := HS.out.go
          obtain ⟨r0, r1, r2, f0, f1_, f2_⟩ := HS.out.res
          have HGA := Lib.hid (askArgs_any (5 : Int))
          rw [show arity (5 : Int) = 0 from rfl] at HGA
          go_wp2_with fail
          refine (HGA.out _).mono ?_
          rintro r w9 ⟨rfl, rfl⟩
          go_wp2
          obtain ⟨d0, d1, d2, hrd, hgr, -⟩ := HS.out.done
          unfold resW at d0 d1 d2
          exact bodyPost_ret (v := .agg #[.int .i64 5, .int .i64 n9, .slice none 0 0]) (by simp [results, d0, d1, d2, go_sem]) rfl (leaf_res (fun e => by rcases HNF.out.2.2.2.1 e with h | h; cases h; rw [HK.out, HA.out, h]; rfl) (fun e => by rw [HK.out, HA.out, (HNF.out.2.2.2.2 e).2]; rfl) hrd hgr)
        · clear z3 fz3 z0 z1 z2 fz0 fz1 fz2
          replace HS : Hid (AskS w W0 _ g lv E (p + 1) false 6 0 (.slice none 0 0)) := Lib.hid HS.out
          obtain ⟨z3, fz3, z0, z1, z2, fz0, fz1, fz2⟩ := HS.out.go
          go_wp2_with fail
          refine (HTX.out _ (p + 1) false (grownBel h0 hg HS.out.grew) hp7 HS.out.1).mono ?_
          rintro r w6 ⟨rfl, hb⟩
          replace HS := Lib.hid (HS.out.keep hb)
          clear hb
          go_wp2_with fail
          refine (HNM.out _ (p + 1) false (grownBel h0 hg HS.out.grew) hp7 HS.out.1).mono ?_
          rintro r w9 ⟨rfl, hr9, hg9⟩
          replace HS := Lib.hid (HS.out.grown hg9 hr9)
          clear hg9 hr9 z3 fz3 z0 z1 z2 fz0 fz1 fz2
          obtain ⟨z3, fz3, z0, z1, z2, fz0, fz1, fz2⟩ := HS.out.go
          generalize numS l (p + 1) false = NS at *
          obtain ⟨n9, p9, f9⟩ := NS
          dsimp only at *
          go_upto_region 48 with fail
          clear z3 fz3 z0 z1 z2 fz0 fz1 fz2
          replace HS := Lib.hid (HS.out.put1 n9)
          generalize w9.setCell ⟨w.heap.size + 1, 1, none⟩ (.int .i64 n9) = W8 at *
          obtain ⟨z3, fz3, z0, z1, z2, fz0, fz1, fz2⟩ := HS.out.go
          obtain ⟨r0, r1, r2, f0, f1_, f2_⟩ := HS.out.res
          have HGA := Lib.hid (askArgs_any (6 : Int))
          rw [show arity (6 : Int) = 0 from rfl] at HGA
          go_wp2_with fail
          refine (HGA.out _).mono ?_
          rintro r w9 ⟨rfl, rfl⟩
          go_wp2
          obtain ⟨d0, d1, d2, hrd, hgr, -⟩ := HS.out.done
          unfold resW at d0 d1 d2
          exact bodyPost_ret (v := .agg #[.int .i64 6, .int .i64 n9, .slice none 0 0]) (by simp [results, d0, d1, d2, go_sem]) rfl (leaf_res (fun e => by rcases HNF.out.2.2.2.1 e with h | h; cases h; rw [HK.out, HA.out, h]; rfl) (fun e => by rw [HK.out, HA.out, (HNF.out.2.2.2.2 e).2]; rfl) hrd hgr)
end Go.Proofs.YtegknpffiaeohaaDoor
