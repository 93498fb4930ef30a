/- The document's reader of a query of one other: walked. The document's reader of a query of the kind 14: walked. Each lemma states its own conditions. -/
import Derived.Test.YtegknpffiaeohaaDoorRdrH
namespace Go.Proofs.YtegknpffiaeohaaDoor
open Go.RowKit

theorem un_bad {l : List Tok} {k q x : Nat} {rec : Option (Nat → PR Ask)} (h : nP l k q = .fail x) : unFin k rec (nP l k q) = .fail x := by rw [h]; rfl
theorem un_none {l : List Tok} {k q x : Nat} {n : Int} (h : nP l k q = .ok n x) (hu : un k = true) : unFin k none (nP l k q) = .fail x := by
  rw [h]
  unfold unFin
  simp only []
  rw [if_pos hu]
theorem un_some {l : List Tok} {k q x : Nat} {n : Int} {f : Nat → PR Ask} (h : nP l k q = .ok n x) (hu : un k = true) : unFin k (some f) (nP l k q) = unP k n f x := by
  rw [h]
  unfold unFin
  simp only []
  rw [if_pos hu]

set_option maxRecDepth 20000 in
set_option maxHeartbeats 4000000 in
theorem doc_un_none (l : List Tok) (lv : Value) (p E g kk : Nat) (D : Int) (w0 w : World) (hl : Sl tokR w0 lv l) (hn : l.length ≤ 6000) (_hok : ∀ t ∈ l, TokOk t) (h0 : Bel w0 w) (hg : w0.heap.size ≤ g) (h : Rd w g lv p E false) (ht : tk l p lparB = false) (hw : wordP l unK p = some kk)
    (hkk : kk = 7 ∨ kk = 10 ∨ kk = 11 ∨ kk = 12) (hD : D = 60) :
    Calls Tryd.prog 34 #[.pointer (some ⟨g, 0, none⟩), .int .i64 D] w fun r w' => RdRes w g lv E (unFin kk none (nP l kk (p + 1))) r w' := by
  obtain ⟨hku, hk1, hk14, hkt, hp⟩ := un_word hw
  have htx : tx l p false ≠ lparB := fun e => by
    rw [tk_tx (by decide), decide_eq_false_iff_not] at ht
    exact ht e
  have HTX := Lib.hid (fun W q fl (hb : Bel w0 W) (hq : q ≤ l.length) (h : Rd W g lv q E fl) => text_any l lv q E g fl W (hl.keep hb) hn hq h)
  have HND := Lib.hid (fun W q fl s (hb : Bel w0 W) (hq : q ≤ l.length) (h : Rd W g lv q E fl) => need_any l lv q E g fl s W (hl.keep hb) hn hq h)
  have HN2 : Hid (needS l p false (wordB kk) = (p + 1, false)) := Lib.hid (needS_yes hkt)
  have HS := Lib.hid (AskS.start (E := E) h)
  have e40 : ((tx l p false).toList == [40]) = false := lit_false htx
  have HWY : Hid (∀ k : Nat, 1 ≤ k → k < 15 → arity (k : Int) < 2 → tx l p false = wordB k → wordP l unK p = some k) := Lib.hid fun k h1 h2 h3 e => (wordP_un ⟨k, h2⟩).2 ⟨(mem_unK ⟨k, h2⟩).2 ⟨h1, h3⟩, e⟩
  have HWN : Hid (∀ k : Nat, k < 15 → wordP l unK p = some k → arity (k : Int) < 2 ∧ tx l p false = wordB k) := Lib.hid fun k h2 e => by
    obtain ⟨h3, h4⟩ := (wordP_un ⟨k, h2⟩).1 e
    exact ⟨((mem_unK ⟨k, h2⟩).1 h3).2, h4⟩
  have HWK : Hid (wordP l unK p = some kk) := Lib.hid hw
  have hup : upTo (wordP l unK p) 1 = 0 := by rw [hw]; unfold upTo; simp only []; rw [if_neg (by omega)]
  have hup15 : upTo (wordP l unK p) 15 = kk := by rw [hw]; unfold upTo; simp only []; rw [if_pos (by omega)]
  clear h ht htx hw hkt
  have hd60 : (D == 60) = true := by simp [hD]
  clear hD
  go_enter Tryd.func34, Tryd.ntmps34
  go_upto_region 2 with fail
  generalize (w.alloc (.cells #[.int .i64 0, .int .i64 0, .slice none 0 0] 24)).alloc (.cells #[.int .i64 0, .int .i64 0, .slice none 0 0] 24) = W0 at *
  go_wp2_with fail
  refine (HTX.out _ p false (grownBel h0 hg HS.out.grew) (by omega) HS.out.1).mono ?_
  rintro r w1 ⟨rfl, hb⟩
  replace HS := Lib.hid (HS.out.keep hb)
  clear hb
  go_wp2
  have HX : Hid (AskS w W0 w1 g lv E p false (upTo (wordP l unK p) 1) 0 (.slice none 0 0)) := Lib.hid (by rw [hup]; exact HS.out)
  clear e40 hup
  go_loopw [9] (fun t wr => ∃ k : Nat, 1 ≤ k ∧ k ≤ 15 ∧ t = .int .i64 k ∧ Hid (AskS w W0 wr g lv E p false (upTo (wordP l unK p) k) 0 (.slice none 0 0))) (fun t _ => 15 - (intOf t).toNat)
  case atStart => exact ⟨1, by omega, by omega, rfl, HX⟩
  case round =>
    obtain ⟨k, hk1', hk, rfl, HY⟩ := hrel
    clear HX HS
    by_cases hlt : k < 15
    · have hd : decide ((k : Int) ≤ 14) = true := decide_eq_true (by omega)
      have HGA := Lib.hid (askArgs_any (k : Int))
      have HW := Lib.hid (askWord_any k (by omega))
      go_wp2_with fail
      refine (HGA.out _).mono ?_
      rintro r w4 ⟨rfl, rfl⟩
      by_cases ha : arity (k : Int) < 2
      · have hd2 : decide (arity (k : Int) < 2) = true := decide_eq_true ha
        by_cases hs : tx l p false = wordB k
        · have hK := HWY.out k hk1' hlt ha hs
          have hwe : ((tx l p false).toList == (wordB k).toList) = true := by rw [hs]; simp
          clear ha hs
          generalize arity (k : Int) = a at *
          go_wp2_with fail
          refine (HTX.out _ p false (grownBel h0 hg HY.out.grew) (by omega) HY.out.1).mono ?_
          rintro r w5 ⟨rfl, hb3⟩
          replace HY := Lib.hid (HY.out.keep hb3)
          clear hb3
          go_wp2_with fail
          refine (HW.out _).mono ?_
          rintro r w6 ⟨rfl, hb4⟩
          replace HY := Lib.hid (HY.out.keep hb4)
          clear hb4
          obtain ⟨-, -, z0, z1, z2, fz0, fz1, fz2⟩ := HY.out.go
          go_wp2
          go_roundw
          case rel => exact ⟨k + 1, by omega, by omega, by go_num, Lib.hid (by rw [upTo_yes hK]; exact HY.out.put0 k)⟩
          case measure => simp [intOf]; omega
        · have hK : wordP l unK p ≠ some k := fun e => hs (HWN.out k hlt e).2
          have hwe : ((tx l p false).toList == (wordB k).toList) = false := str_false hs
          clear ha hs
          generalize arity (k : Int) = a at *
          go_wp2_with fail
          refine (HTX.out _ p false (grownBel h0 hg HY.out.grew) (by omega) HY.out.1).mono ?_
          rintro r w5 ⟨rfl, hb3⟩
          replace HY := Lib.hid (HY.out.keep hb3)
          clear hb3
          go_wp2_with fail
          refine (HW.out _).mono ?_
          rintro r w6 ⟨rfl, hb4⟩
          replace HY := Lib.hid (HY.out.keep hb4)
          clear hb4
          go_wp2
          go_roundw
          case rel => exact ⟨k + 1, by omega, by omega, by go_num, Lib.hid (by rw [upTo_no hK]; exact HY.out)⟩
          case measure => simp [intOf]; omega
      · have hd2 : decide (arity (k : Int) < 2) = false := decide_eq_false ha
        have hK : wordP l unK p ≠ some k := fun e => ha (HWN.out k hlt e).1
        clear ha
        generalize arity (k : Int) = a at *
        go_wp2
        go_roundw
        case rel => exact ⟨k + 1, by omega, by omega, by go_num, Lib.hid (by rw [upTo_no hK]; exact HY.out)⟩
        case measure => simp [intOf]; omega
    · obtain rfl : k = 15 := by omega
      have hd : decide (((15 : Nat) : Int) ≤ 14) = false := decide_eq_false (by omega)
      have HS : Hid (AskS w W0 wr g lv E p false kk 0 (.slice none 0 0)) := Lib.hid (by rw [← hup15]; exact HY.out)
      clear HY HWY HWN HWK hup15
      obtain ⟨-, -, z0, z1, z2, fz0, fz1, fz2⟩ := HS.out.go
      have hk0 : ((kk : Int) == 0) = false := by simp; omega
      have HW := Lib.hid (askWord_any kk (by omega))
      go_wp2_with fail
      refine (HW.out _).mono ?_
      rintro r w4 ⟨rfl, hb4⟩
      replace HS := Lib.hid (HS.out.keep hb4)
      clear hb4 z0 z1 z2 fz0 fz1 fz2
      go_wp2_with fail
      refine (HND.out _ p false _ (grownBel h0 hg HS.out.grew) (by omega) HS.out.1).mono ?_
      rintro r w5 ⟨⟨v5, rfl⟩, hp5, hg5⟩
      rw [HN2.out] at hp5
      replace HS := Lib.hid (HS.out.grown hg5 hp5)
      clear hg5 hp5 HN2
      obtain ⟨z3, fz3, z0, z1, z2, fz0, fz1, fz2⟩ := HS.out.go
      have hka : arity (kk : Int) = 1 := by rcases hkk with rfl | rfl | rfl | rfl <;> rfl
      have hku2 : un kk = true := by rcases hkk with rfl | rfl | rfl | rfl <;> rfl
      have HNP : Hid (nP l kk (p + 1) = .ok 0 (p + 1)) := Lib.hid (by unfold nP; rw [if_neg (by omega), if_neg (by omega), if_neg (by omega)])
      have t1 : ((kk : Int) == 1) = false := by simp; omega
      have t2 : ((kk : Int) == 2) = false := by simp; omega
      have t3 : ((kk : Int) == 3) = false := by simp; omega
      have t5 : ((kk : Int) == 5) = false := by simp; omega
      have t6 : ((kk : Int) == 6) = false := by simp; omega
      have t14 : ((kk : Int) == 14) = false := by simp; omega
      clear hkk
      go_upto_region 48 with fail
      clear t1 t2 t3 t5 t6 t14 z3 fz3 z0 z1 z2 fz0 fz1 fz2
      obtain ⟨z3, fz3, z0, z1, z2, fz0, fz1, fz2⟩ := HS.out.go
      have HGA := Lib.hid (askArgs_any (kk : Int))
      rw [hka] at HGA
      go_wp2_with fail
      refine (HGA.out _).mono ?_
      rintro r w9 ⟨rfl, rfl⟩
      go_upto_region 51 with fail
      replace HS := Lib.hid HS.out.bad
      generalize HB9 : World.setCell _ _ _ = W10 at *
      clear z3 fz3 z0 z1 z2 fz0 fz1 fz2
      obtain ⟨z3, fz3, z0, z1, z2, fz0, fz1, fz2⟩ := HS.out.go
      obtain ⟨r0, r1, r2, f0, f1_, f2_⟩ := HS.out.res
      go_wp2
      obtain ⟨d0, d1, d2, hrd, hgr, -⟩ := HS.out.done
      unfold resW at d0 d1 d2
      exact bodyPost_ret (v := .agg #[.int .i64 kk, .int .i64 0, .slice none 0 0]) (by simp [results, d0, d1, d2, go_sem]) rfl (.mkBad (un_none HNP.out hku2) ⟨_, _, _, _, _, rfl⟩ hrd hgr)

set_option maxRecDepth 20000 in
set_option maxHeartbeats 4000000 in
theorem doc_un_some (l : List Tok) (lv : Value) (p E g kk : Nat) (D : Int) (f : Nat → PR Ask) (w0 w : World) (hl : Sl tokR w0 lv l) (hn : l.length ≤ 6000) (_hok : ∀ t ∈ l, TokOk t) (h0 : Bel w0 w) (hg : w0.heap.size ≤ g) (h : Rd w g lv p E false) (ht : tk l p lparB = false) (hw : wordP l unK p = some kk)
    (hkk : kk = 7 ∨ kk = 10 ∨ kk = 11 ∨ kk = 12) (hD : 0 ≤ D ∧ D < 60) (hrec : ∀ q W, q ≤ l.length → Bel w0 W → Rd W g lv q E false → Calls Tryd.prog 34 #[.pointer (some ⟨g, 0, none⟩), .int .i64 (D + 1)] W fun r w' => RdRes W g lv E (f q) r w') (hf : ∀ q, q ≤ l.length → Within l.length (f q)) :
    Calls Tryd.prog 34 #[.pointer (some ⟨g, 0, none⟩), .int .i64 D] w fun r w' => RdRes w g lv E (unFin kk (some f) (nP l kk (p + 1))) r w' := by
  obtain ⟨hku, hk1, hk14, hkt, hp⟩ := un_word hw
  have htx : tx l p false ≠ lparB := fun e => by
    rw [tk_tx (by decide), decide_eq_false_iff_not] at ht
    exact ht e
  have HTX := Lib.hid (fun W q fl (hb : Bel w0 W) (hq : q ≤ l.length) (h : Rd W g lv q E fl) => text_any l lv q E g fl W (hl.keep hb) hn hq h)
  have HND := Lib.hid (fun W q fl s (hb : Bel w0 W) (hq : q ≤ l.length) (h : Rd W g lv q E fl) => need_any l lv q E g fl s W (hl.keep hb) hn hq h)
  have HN2 : Hid (needS l p false (wordB kk) = (p + 1, false)) := Lib.hid (needS_yes hkt)
  have HS := Lib.hid (AskS.start (E := E) h)
  have e40 : ((tx l p false).toList == [40]) = false := lit_false htx
  have HWY : Hid (∀ k : Nat, 1 ≤ k → k < 15 → arity (k : Int) < 2 → tx l p false = wordB k → wordP l unK p = some k) := Lib.hid fun k h1 h2 h3 e => (wordP_un ⟨k, h2⟩).2 ⟨(mem_unK ⟨k, h2⟩).2 ⟨h1, h3⟩, e⟩
  have HWN : Hid (∀ k : Nat, k < 15 → wordP l unK p = some k → arity (k : Int) < 2 ∧ tx l p false = wordB k) := Lib.hid fun k h2 e => by
    obtain ⟨h3, h4⟩ := (wordP_un ⟨k, h2⟩).1 e
    exact ⟨((mem_unK ⟨k, h2⟩).1 h3).2, h4⟩
  have HWK : Hid (wordP l unK p = some kk) := Lib.hid hw
  have hup : upTo (wordP l unK p) 1 = 0 := by rw [hw]; unfold upTo; simp only []; rw [if_neg (by omega)]
  have hup15 : upTo (wordP l unK p) 15 = kk := by rw [hw]; unfold upTo; simp only []; rw [if_pos (by omega)]
  clear h ht htx hw hkt
  go_enter Tryd.func34, Tryd.ntmps34
  go_upto_region 2 with fail
  generalize (w.alloc (.cells #[.int .i64 0, .int .i64 0, .slice none 0 0] 24)).alloc (.cells #[.int .i64 0, .int .i64 0, .slice none 0 0] 24) = W0 at *
  go_wp2_with fail
  refine (HTX.out _ p false (grownBel h0 hg HS.out.grew) (by omega) HS.out.1).mono ?_
  rintro r w1 ⟨rfl, hb⟩
  replace HS := Lib.hid (HS.out.keep hb)
  clear hb
  go_wp2
  have HX : Hid (AskS w W0 w1 g lv E p false (upTo (wordP l unK p) 1) 0 (.slice none 0 0)) := Lib.hid (by rw [hup]; exact HS.out)
  clear e40 hup
  go_loopw [9] (fun t wr => ∃ k : Nat, 1 ≤ k ∧ k ≤ 15 ∧ t = .int .i64 k ∧ Hid (AskS w W0 wr g lv E p false (upTo (wordP l unK p) k) 0 (.slice none 0 0))) (fun t _ => 15 - (intOf t).toNat)
  case atStart => exact ⟨1, by omega, by omega, rfl, HX⟩
  case round =>
    obtain ⟨k, hk1', hk, rfl, HY⟩ := hrel
    clear HX HS
    by_cases hlt : k < 15
    · have hd : decide ((k : Int) ≤ 14) = true := decide_eq_true (by omega)
      have HGA := Lib.hid (askArgs_any (k : Int))
      have HW := Lib.hid (askWord_any k (by omega))
      go_wp2_with fail
      refine (HGA.out _).mono ?_
      rintro r w4 ⟨rfl, rfl⟩
      by_cases ha : arity (k : Int) < 2
      · have hd2 : decide (arity (k : Int) < 2) = true := decide_eq_true ha
        by_cases hs : tx l p false = wordB k
        · have hK := HWY.out k hk1' hlt ha hs
          have hwe : ((tx l p false).toList == (wordB k).toList) = true := by rw [hs]; simp
          clear ha hs
          generalize arity (k : Int) = a at *
          go_wp2_with fail
          refine (HTX.out _ p false (grownBel h0 hg HY.out.grew) (by omega) HY.out.1).mono ?_
          rintro r w5 ⟨rfl, hb3⟩
          replace HY := Lib.hid (HY.out.keep hb3)
          clear hb3
          go_wp2_with fail
          refine (HW.out _).mono ?_
          rintro r w6 ⟨rfl, hb4⟩
          replace HY := Lib.hid (HY.out.keep hb4)
          clear hb4
          obtain ⟨-, -, z0, z1, z2, fz0, fz1, fz2⟩ := HY.out.go
          go_wp2
          go_roundw
          case rel => exact ⟨k + 1, by omega, by omega, by go_num, Lib.hid (by rw [upTo_yes hK]; exact HY.out.put0 k)⟩
          case measure => simp [intOf]; omega
        · have hK : wordP l unK p ≠ some k := fun e => hs (HWN.out k hlt e).2
          have hwe : ((tx l p false).toList == (wordB k).toList) = false := str_false hs
          clear ha hs
          generalize arity (k : Int) = a at *
          go_wp2_with fail
          refine (HTX.out _ p false (grownBel h0 hg HY.out.grew) (by omega) HY.out.1).mono ?_
          rintro r w5 ⟨rfl, hb3⟩
          replace HY := Lib.hid (HY.out.keep hb3)
          clear hb3
          go_wp2_with fail
          refine (HW.out _).mono ?_
          rintro r w6 ⟨rfl, hb4⟩
          replace HY := Lib.hid (HY.out.keep hb4)
          clear hb4
          go_wp2
          go_roundw
          case rel => exact ⟨k + 1, by omega, by omega, by go_num, Lib.hid (by rw [upTo_no hK]; exact HY.out)⟩
          case measure => simp [intOf]; omega
      · have hd2 : decide (arity (k : Int) < 2) = false := decide_eq_false ha
        have hK : wordP l unK p ≠ some k := fun e => ha (HWN.out k hlt e).1
        clear ha
        generalize arity (k : Int) = a at *
        go_wp2
        go_roundw
        case rel => exact ⟨k + 1, by omega, by omega, by go_num, Lib.hid (by rw [upTo_no hK]; exact HY.out)⟩
        case measure => simp [intOf]; omega
    · obtain rfl : k = 15 := by omega
      have hd : decide (((15 : Nat) : Int) ≤ 14) = false := decide_eq_false (by omega)
      have HS : Hid (AskS w W0 wr g lv E p false kk 0 (.slice none 0 0)) := Lib.hid (by rw [← hup15]; exact HY.out)
      clear HY HWY HWN HWK hup15
      obtain ⟨-, -, z0, z1, z2, fz0, fz1, fz2⟩ := HS.out.go
      have hk0 : ((kk : Int) == 0) = false := by simp; omega
      have HW := Lib.hid (askWord_any kk (by omega))
      go_wp2_with fail
      refine (HW.out _).mono ?_
      rintro r w4 ⟨rfl, hb4⟩
      replace HS := Lib.hid (HS.out.keep hb4)
      clear hb4 z0 z1 z2 fz0 fz1 fz2
      go_wp2_with fail
      refine (HND.out _ p false _ (grownBel h0 hg HS.out.grew) (by omega) HS.out.1).mono ?_
      rintro r w5 ⟨⟨v5, rfl⟩, hp5, hg5⟩
      rw [HN2.out] at hp5
      replace HS := Lib.hid (HS.out.grown hg5 hp5)
      clear hg5 hp5 HN2
      obtain ⟨z3, fz3, z0, z1, z2, fz0, fz1, fz2⟩ := HS.out.go
      have HREC := Lib.hid (fun W q fl (hb : Bel w0 W) (hq : q ≤ l.length) (h : Rd W g lv q E fl) => ask_state l lv q E g fl (D + 1) (f q) W (hl.keep hb) hn hq h (hf q hq) (fun e => by subst e; exact hrec q W hq hb h))
      clear hrec hf
      have hka : arity (kk : Int) = 1 := by rcases hkk with rfl | rfl | rfl | rfl <;> rfl
      have hku2 : un kk = true := by rcases hkk with rfl | rfl | rfl | rfl <;> rfl
      have HNP : Hid (nP l kk (p + 1) = .ok 0 (p + 1)) := Lib.hid (by unfold nP; rw [if_neg (by omega), if_neg (by omega), if_neg (by omega)])
      have t1 : ((kk : Int) == 1) = false := by simp; omega
      have t2 : ((kk : Int) == 2) = false := by simp; omega
      have t3 : ((kk : Int) == 3) = false := by simp; omega
      have t5 : ((kk : Int) == 5) = false := by simp; omega
      have t6 : ((kk : Int) == 6) = false := by simp; omega
      have t14 : ((kk : Int) == 14) = false := by simp; omega
      clear hkk
      go_upto_region 48 with fail
      clear t1 t2 t3 t5 t6 t14 z3 fz3 z0 z1 z2 fz0 fz1 fz2
      obtain ⟨z3, fz3, z0, z1, z2, fz0, fz1, fz2⟩ := HS.out.go
      have HGA := Lib.hid (askArgs_any (kk : Int))
      rw [hka] at HGA
      have hd60 : (D == 60) = false := by simp; omega
      go_wp2_with fail
      refine (HGA.out _).mono ?_
      rintro r w9 ⟨rfl, rfl⟩
      go_wp2_with fail
      refine (HREC.out _ (p + 1) false (grownBel h0 hg HS.out.grew) (by omega) HS.out.1).mono ?_
      rintro r w5 ⟨p2, f2, k2, n2, A2, m2, c2, rfl, hg5, hp5, hl2, hT2, hF2⟩
      have hba := (Bel.rfl_ w5).al (.cells #[.int .i64 k2, .int .i64 n2, .slice A2 m2 c2] 24)
      have HAG2 : Hid (w.heap.size + 2 ≤ w5.heap.size) := Lib.hid (Nat.le_trans HS.out.size hg5.size)
      have hgl := HS.out.lt
      have HT2 := Lib.hid hT2
      have HF2 : Hid (f2 = false → ∃ args, m2 = args.length ∧ f (p + 1) = .ok (.mk k2 n2 args) p2 ∧ Sl askR (low (w.heap.size + 2) (w5.alloc (.cells #[.int .i64 k2, .int .i64 n2, .slice A2 m2 c2] 24))) (.slice A2 m2 c2) args) := Lib.hid fun e => by
        obtain ⟨hz0, args, h1, h2, h3⟩ := hF2 e
        exact ⟨args, h1, h2, (low_mono HS.out.size h3).keep (low_belB hba)⟩
      clear hT2 hF2
      have HBB := Lib.hid (low_blk (B := w.heap.size + 2) (Blk.new w5 24 #[.int .i64 k2, .int .i64 n2, .slice A2 m2 c2]) HAG2.out)
      replace HS := Lib.hid ((HS.out.grown hg5 hp5).keep hba)
      clear hg5 hp5 hba HREC z3 fz3 z0 z1 z2 fz0 fz1 fz2
      go_upto_region 53 with fail
      generalize w5.alloc (.cells #[.int .i64 k2, .int .i64 n2, .slice A2 m2 c2] 24) = W6 at *
      generalize w5.heap.size = GB at *
      have y0 := (low_unb HBB.out HAG2.out).cell (i := 0) (v := .int .i64 k2) rfl
      have y1 := (low_unb HBB.out HAG2.out).cell (i := 1) (v := .int .i64 n2) rfl
      have y2 := (low_unb HBB.out HAG2.out).cell (i := 2) (v := .slice A2 m2 c2) rfl
      have hb8 := (Bel.rfl_ W6).al (.cells #[.int .i64 k2, .int .i64 n2, .slice A2 m2 c2] 24)
      have HQG : Hid (w.heap.size + 2 ≤ W6.heap.size) := Lib.hid HS.out.size
      have HQN := Lib.hid (low_blk (B := w.heap.size + 2) (Blk.new W6 24 #[.int .i64 k2, .int .i64 n2, .slice A2 m2 c2]) HQG.out)
      replace HS := Lib.hid (HS.out.keep hb8)
      replace HF2 : Hid (f2 = false → ∃ args, m2 = args.length ∧ f (p + 1) = .ok (.mk k2 n2 args) p2 ∧ Sl askR (low (w.heap.size + 2) _) (.slice A2 m2 c2) args) := Lib.hid fun e => by
        obtain ⟨args, h1, h2, h3⟩ := HF2.out e
        exact ⟨args, h1, h2, h3.keep (low_belB hb8)⟩
      clear hb8
      obtain ⟨-, -, -, -, z2, -, -, fz2⟩ := HS.out.go
      go_upto_region 54 with fail
      clear y0 y1 y2 z2 fz2
      generalize W6.alloc (.cells #[.int .i64 k2, .int .i64 n2, .slice A2 m2 c2] 24) = W8 at *
      generalize W6.heap.size = GQ at *
      have hlow := low_set (B := w.heap.size + 2) W8 (g := w.heap.size + 1) (i := 2) (.slice (some ⟨GQ, 0, none⟩) 1 1) (by omega)
      replace HQN := Lib.hid (HQN.out.keep hlow)
      replace HF2 : Hid (f2 = false → ∃ args, m2 = args.length ∧ f (p + 1) = .ok (.mk k2 n2 args) p2 ∧ Sl askR (low (w.heap.size + 2) _) (.slice A2 m2 c2) args) := Lib.hid fun e => by
        obtain ⟨args, h1, h2, h3⟩ := HF2.out e
        exact ⟨args, h1, h2, h3.keep hlow⟩
      replace HS := Lib.hid (HS.out.put2 (.slice (some ⟨GQ, 0, none⟩) 1 1)).fresh
      clear hlow
      generalize W8.setCell ⟨w.heap.size + 1, 2, none⟩ (.slice (some ⟨GQ, 0, none⟩) 1 1) = W9 at *
      obtain ⟨-, -, z0, z1, z2, -, -, -⟩ := HS.out.go
      obtain ⟨r0, r1, r2, f0, f1_, f2_⟩ := HS.out.res
      go_wp2
      obtain ⟨d0, d1, d2, hrd, hgr, hlo⟩ := HS.out.done
      unfold resW at d0 d1 d2
      refine bodyPost_ret (v := .agg #[.int .i64 kk, .int .i64 0, .slice (some ⟨GQ, 0, none⟩) 1 1]) (by simp [results, d0, d1, d2, go_sem]) rfl ?_
      cases f2 with
      | true => exact .mkBad (by rcases HT2.out rfl with ⟨h, -⟩ | ⟨-, h⟩; cases h; rw [un_some HNP.out hku2]; unfold unP; rw [h]) ⟨_, _, _, _, _, rfl⟩ hrd hgr
      | false =>
        obtain ⟨args2, rfl, hfb, hsb⟩ := HF2.out rfl
        refine .mkGood (k := kk) (n := 0) (args := [.mk k2 n2 args2]) (p := p2) (by rw [un_some HNP.out hku2]; unfold unP; rw [hfb]) hgr ?_ hrd
        exact low_mono (by omega) (low_one (a := .mk k2 n2 args2) (low_unb (HQN.out.keep hlo) HQG.out) HQG.out (hsb.keep hlo))
end Go.Proofs.YtegknpffiaeohaaDoor

namespace Go.Proofs.YtegknpffiaeohaaDoor
open Go.RowKit

set_option maxRecDepth 20000 in
set_option maxHeartbeats 4000000 in
theorem doc_soon_none (l : List Tok) (lv : Value) (p E g kk : Nat) (D : Int) (w0 w : World) (hl : Sl tokR w0 lv l) (hn : l.length ≤ 6000) (hok : ∀ t ∈ l, TokOk t) (h0 : Bel w0 w) (hg : w0.heap.size ≤ g) (h : Rd w g lv p E false) (ht : tk l p lparB = false) (hw : wordP l unK p = some kk)
    (hkk : kk = 14) (hD : D = 60) :
    Calls Tryd.prog 34 #[.pointer (some ⟨g, 0, none⟩), .int .i64 D] w fun r w' => RdRes w g lv E (unFin kk none (nP l kk (p + 1))) r w' := by
  obtain ⟨hku, hk1, hk14, hkt, hp⟩ := un_word hw
  have htx : tx l p false ≠ lparB := fun e => by
    rw [tk_tx (by decide), decide_eq_false_iff_not] at ht
    exact ht e
  have HTX := Lib.hid (fun W q fl (hb : Bel w0 W) (hq : q ≤ l.length) (h : Rd W g lv q E fl) => text_any l lv q E g fl W (hl.keep hb) hn hq h)
  have HND := Lib.hid (fun W q fl s (hb : Bel w0 W) (hq : q ≤ l.length) (h : Rd W g lv q E fl) => need_any l lv q E g fl s W (hl.keep hb) hn hq h)
  have HN2 : Hid (needS l p false (wordB kk) = (p + 1, false)) := Lib.hid (needS_yes hkt)
  have HS := Lib.hid (AskS.start (E := E) h)
  have e40 : ((tx l p false).toList == [40]) = false := lit_false htx
  have HWY : Hid (∀ k : Nat, 1 ≤ k → k < 15 → arity (k : Int) < 2 → tx l p false = wordB k → wordP l unK p = some k) := Lib.hid fun k h1 h2 h3 e => (wordP_un ⟨k, h2⟩).2 ⟨(mem_unK ⟨k, h2⟩).2 ⟨h1, h3⟩, e⟩
  have HWN : Hid (∀ k : Nat, k < 15 → wordP l unK p = some k → arity (k : Int) < 2 ∧ tx l p false = wordB k) := Lib.hid fun k h2 e => by
    obtain ⟨h3, h4⟩ := (wordP_un ⟨k, h2⟩).1 e
    exact ⟨((mem_unK ⟨k, h2⟩).1 h3).2, h4⟩
  have HWK : Hid (wordP l unK p = some kk) := Lib.hid hw
  have hup : upTo (wordP l unK p) 1 = 0 := by rw [hw]; unfold upTo; simp only []; rw [if_neg (by omega)]
  have hup15 : upTo (wordP l unK p) 15 = kk := by rw [hw]; unfold upTo; simp only []; rw [if_pos (by omega)]
  clear h ht htx hw hkt
  replace hkk := Lib.hid hkk
  have hd60 : (D == 60) = true := by simp [hD]
  clear hD
  go_enter Tryd.func34, Tryd.ntmps34
  go_upto_region 2 with fail
  generalize (w.alloc (.cells #[.int .i64 0, .int .i64 0, .slice none 0 0] 24)).alloc (.cells #[.int .i64 0, .int .i64 0, .slice none 0 0] 24) = W0 at *
  go_wp2_with fail
  refine (HTX.out _ p false (grownBel h0 hg HS.out.grew) (by omega) HS.out.1).mono ?_
  rintro r w1 ⟨rfl, hb⟩
  replace HS := Lib.hid (HS.out.keep hb)
  clear hb
  go_wp2
  have HX : Hid (AskS w W0 w1 g lv E p false (upTo (wordP l unK p) 1) 0 (.slice none 0 0)) := Lib.hid (by rw [hup]; exact HS.out)
  clear e40 hup
  go_loopw [9] (fun t wr => ∃ k : Nat, 1 ≤ k ∧ k ≤ 15 ∧ t = .int .i64 k ∧ Hid (AskS w W0 wr g lv E p false (upTo (wordP l unK p) k) 0 (.slice none 0 0))) (fun t _ => 15 - (intOf t).toNat)
  case atStart => exact ⟨1, by omega, by omega, rfl, HX⟩
  case round =>
    obtain ⟨k, hk1', hk, rfl, HY⟩ := hrel
    clear HX HS
    by_cases hlt : k < 15
    · have hd : decide ((k : Int) ≤ 14) = true := decide_eq_true (by omega)
      have HGA := Lib.hid (askArgs_any (k : Int))
      have HW := Lib.hid (askWord_any k (by omega))
      go_wp2_with fail
      refine (HGA.out _).mono ?_
      rintro r w4 ⟨rfl, rfl⟩
      by_cases ha : arity (k : Int) < 2
      · have hd2 : decide (arity (k : Int) < 2) = true := decide_eq_true ha
        by_cases hs : tx l p false = wordB k
        · have hK := HWY.out k hk1' hlt ha hs
          have hwe : ((tx l p false).toList == (wordB k).toList) = true := by rw [hs]; simp
          clear ha hs
          generalize arity (k : Int) = a at *
          go_wp2_with fail
          refine (HTX.out _ p false (grownBel h0 hg HY.out.grew) (by omega) HY.out.1).mono ?_
          rintro r w5 ⟨rfl, hb3⟩
          replace HY := Lib.hid (HY.out.keep hb3)
          clear hb3
          go_wp2_with fail
          refine (HW.out _).mono ?_
          rintro r w6 ⟨rfl, hb4⟩
          replace HY := Lib.hid (HY.out.keep hb4)
          clear hb4
          obtain ⟨-, -, z0, z1, z2, fz0, fz1, fz2⟩ := HY.out.go
          go_wp2
          go_roundw
          case rel => exact ⟨k + 1, by omega, by omega, by go_num, Lib.hid (by rw [upTo_yes hK]; exact HY.out.put0 k)⟩
          case measure => simp [intOf]; omega
        · have hK : wordP l unK p ≠ some k := fun e => hs (HWN.out k hlt e).2
          have hwe : ((tx l p false).toList == (wordB k).toList) = false := str_false hs
          clear ha hs
          generalize arity (k : Int) = a at *
          go_wp2_with fail
          refine (HTX.out _ p false (grownBel h0 hg HY.out.grew) (by omega) HY.out.1).mono ?_
          rintro r w5 ⟨rfl, hb3⟩
          replace HY := Lib.hid (HY.out.keep hb3)
          clear hb3
          go_wp2_with fail
          refine (HW.out _).mono ?_
          rintro r w6 ⟨rfl, hb4⟩
          replace HY := Lib.hid (HY.out.keep hb4)
          clear hb4
          go_wp2
          go_roundw
          case rel => exact ⟨k + 1, by omega, by omega, by go_num, Lib.hid (by rw [upTo_no hK]; exact HY.out)⟩
          case measure => simp [intOf]; omega
      · have hd2 : decide (arity (k : Int) < 2) = false := decide_eq_false ha
        have hK : wordP l unK p ≠ some k := fun e => ha (HWN.out k hlt e).1
        clear ha
        generalize arity (k : Int) = a at *
        go_wp2
        go_roundw
        case rel => exact ⟨k + 1, by omega, by omega, by go_num, Lib.hid (by rw [upTo_no hK]; exact HY.out)⟩
        case measure => simp [intOf]; omega
    · obtain rfl : k = 15 := by omega
      have hd : decide (((15 : Nat) : Int) ≤ 14) = false := decide_eq_false (by omega)
      have HS : Hid (AskS w W0 wr g lv E p false kk 0 (.slice none 0 0)) := Lib.hid (by rw [← hup15]; exact HY.out)
      clear HY HWY HWN HWK hup15
      obtain ⟨-, -, z0, z1, z2, fz0, fz1, fz2⟩ := HS.out.go
      have hk0 : ((kk : Int) == 0) = false := by simp; omega
      have HW := Lib.hid (askWord_any kk (by omega))
      go_wp2_with fail
      refine (HW.out _).mono ?_
      rintro r w4 ⟨rfl, hb4⟩
      replace HS := Lib.hid (HS.out.keep hb4)
      clear hb4 z0 z1 z2 fz0 fz1 fz2
      go_wp2_with fail
      refine (HND.out _ p false _ (grownBel h0 hg HS.out.grew) (by omega) HS.out.1).mono ?_
      rintro r w5 ⟨⟨v5, rfl⟩, hp5, hg5⟩
      rw [HN2.out] at hp5
      replace HS := Lib.hid (HS.out.grown hg5 hp5)
      clear hg5 hp5 HN2
      obtain ⟨z3, fz3, z0, z1, z2, fz0, fz1, fz2⟩ := HS.out.go
      obtain rfl := hkk.out
      clear z3 fz3 z0 z1 z2 fz0 fz1 fz2
      replace HS : Hid (AskS w W0 _ g lv E (p + 1) false 14 0 (.slice none 0 0)) := Lib.hid HS.out
      obtain ⟨z3, fz3, z0, z1, z2, fz0, fz1, fz2⟩ := HS.out.go
      have hka : arity (14 : Int) = 1 := rfl
      have hku2 : un 14 = true := rfl
      have hp7 : p + 1 ≤ l.length := hp
      have HNM := Lib.hid (fun W q fl (hb : Bel w0 W) (hq : q ≤ l.length) (h : Rd W g lv q E fl) => number_state l lv q E g fl W (hl.keep hb) hn hok hq h)
      have HNF := Lib.hid (numS_facts (f := false) hok hp7)
      have hl9 := HNF.out.2.1
      have HNP : Hid (nP l 14 (p + 1) = numP l false (p + 1)) := Lib.hid rfl
      go_wp2_with fail
      refine (HNM.out _ (p + 1) false (grownBel h0 hg HS.out.grew) hp7 HS.out.1).mono ?_
      rintro r w7 ⟨rfl, hr7, hg7⟩
      replace HS := Lib.hid (HS.out.grown hg7 hr7)
      clear hg7 hr7 z3 fz3 z0 z1 z2 fz0 fz1 fz2 HNM
      obtain ⟨z3, fz3, z0, z1, z2, fz0, fz1, fz2⟩ := HS.out.go
      have HN1 : Hid ((numS l (p + 1) false).2.2 = true → nP l 14 (p + 1) = .fail (numS l (p + 1) false).2.1) := Lib.hid fun e => by
        rcases HNF.out.2.2.2.1 e with h | h
        · cases h
        · rw [HNP.out, h]
      have HN2 : Hid ((numS l (p + 1) false).2.2 = false → nP l 14 (p + 1) = .ok (numS l (p + 1) false).1 (numS l (p + 1) false).2.1) := Lib.hid fun e => by rw [HNP.out, (HNF.out.2.2.2.2 e).2]
      clear HNF
      generalize numS l (p + 1) false = NS at *
      obtain ⟨n9, p9, f9⟩ := NS
      dsimp only at *
      go_upto_region 48 with fail
      clear z3 fz3 z0 z1 z2 fz0 fz1 fz2
      replace HS := Lib.hid (HS.out.put1 n9)
      generalize w7.setCell ⟨w.heap.size + 1, 1, none⟩ (.int .i64 n9) = W8 at *
      obtain ⟨z3, fz3, z0, z1, z2, fz0, fz1, fz2⟩ := HS.out.go
      have HGA := Lib.hid (askArgs_any (14 : Int))
      rw [hka] at HGA
      go_wp2_with fail
      refine (HGA.out _).mono ?_
      rintro r w9 ⟨rfl, rfl⟩
      go_upto_region 51 with fail
      replace HS := Lib.hid HS.out.bad
      generalize HB9 : World.setCell _ _ _ = W10 at *
      clear z3 fz3 z0 z1 z2 fz0 fz1 fz2
      obtain ⟨z3, fz3, z0, z1, z2, fz0, fz1, fz2⟩ := HS.out.go
      obtain ⟨r0, r1, r2, f0, f1_, f2_⟩ := HS.out.res
      go_wp2
      obtain ⟨d0, d1, d2, hrd, hgr, -⟩ := HS.out.done
      unfold resW at d0 d1 d2
      exact bodyPost_ret (v := .agg #[.int .i64 14, .int .i64 n9, .slice none 0 0]) (by simp [results, d0, d1, d2, go_sem]) rfl (.mkBad (by cases f9 with | true => exact un_bad (HN1.out rfl) | false => exact un_none (HN2.out rfl) hku2) ⟨_, _, _, _, _, rfl⟩ hrd hgr)

set_option maxRecDepth 20000 in
set_option maxHeartbeats 4000000 in
theorem doc_soon_some (l : List Tok) (lv : Value) (p E g kk : Nat) (D : Int) (f : Nat → PR Ask) (w0 w : World) (hl : Sl tokR w0 lv l) (hn : l.length ≤ 6000) (hok : ∀ t ∈ l, TokOk t) (h0 : Bel w0 w) (hg : w0.heap.size ≤ g) (h : Rd w g lv p E false) (ht : tk l p lparB = false) (hw : wordP l unK p = some kk)
    (hkk : kk = 14) (hD : 0 ≤ D ∧ D < 60) (hrec : ∀ q W, q ≤ l.length → Bel w0 W → Rd W g lv q E false → Calls Tryd.prog 34 #[.pointer (some ⟨g, 0, none⟩), .int .i64 (D + 1)] W fun r w' => RdRes W g lv E (f q) r w') (hf : ∀ q, q ≤ l.length → Within l.length (f q)) :
    Calls Tryd.prog 34 #[.pointer (some ⟨g, 0, none⟩), .int .i64 D] w fun r w' => RdRes w g lv E (unFin kk (some f) (nP l kk (p + 1))) r w' := by
  obtain ⟨hku, hk1, hk14, hkt, hp⟩ := un_word hw
  have htx : tx l p false ≠ lparB := fun e => by
    rw [tk_tx (by decide), decide_eq_false_iff_not] at ht
    exact ht e
  have HTX := Lib.hid (fun W q fl (hb : Bel w0 W) (hq : q ≤ l.length) (h : Rd W g lv q E fl) => text_any l lv q E g fl W (hl.keep hb) hn hq h)
  have HND := Lib.hid (fun W q fl s (hb : Bel w0 W) (hq : q ≤ l.length) (h : Rd W g lv q E fl) => need_any l lv q E g fl s W (hl.keep hb) hn hq h)
  have HN2 : Hid (needS l p false (wordB kk) = (p + 1, false)) := Lib.hid (needS_yes hkt)
  have HS := Lib.hid (AskS.start (E := E) h)
  have e40 : ((tx l p false).toList == [40]) = false := lit_false htx
  have HWY : Hid (∀ k : Nat, 1 ≤ k → k < 15 → arity (k : Int) < 2 → tx l p false = wordB k → wordP l unK p = some k) := Lib.hid fun k h1 h2 h3 e => (wordP_un ⟨k, h2⟩).2 ⟨(mem_unK ⟨k, h2⟩).2 ⟨h1, h3⟩, e⟩
  have HWN : Hid (∀ k : Nat, k < 15 → wordP l unK p = some k → arity (k : Int) < 2 ∧ tx l p false = wordB k) := Lib.hid fun k h2 e => by
    obtain ⟨h3, h4⟩ := (wordP_un ⟨k, h2⟩).1 e
    exact ⟨((mem_unK ⟨k, h2⟩).1 h3).2, h4⟩
  have HWK : Hid (wordP l unK p = some kk) := Lib.hid hw
  have hup : upTo (wordP l unK p) 1 = 0 := by rw [hw]; unfold upTo; simp only []; rw [if_neg (by omega)]
  have hup15 : upTo (wordP l unK p) 15 = kk := by rw [hw]; unfold upTo; simp only []; rw [if_pos (by omega)]
  clear h ht htx hw hkt
  replace hkk := Lib.hid hkk
  go_enter Tryd.func34, Tryd.ntmps34
  go_upto_region 2 with fail
  generalize (w.alloc (.cells #[.int .i64 0, .int .i64 0, .slice none 0 0] 24)).alloc (.cells #[.int .i64 0, .int .i64 0, .slice none 0 0] 24) = W0 at *
  go_wp2_with fail
  refine (HTX.out _ p false (grownBel h0 hg HS.out.grew) (by omega) HS.out.1).mono ?_
  rintro r w1 ⟨rfl, hb⟩
  replace HS := Lib.hid (HS.out.keep hb)
  clear hb
  go_wp2
  have HX : Hid (AskS w W0 w1 g lv E p false (upTo (wordP l unK p) 1) 0 (.slice none 0 0)) := Lib.hid (by rw [hup]; exact HS.out)
  clear e40 hup
  go_loopw [9] (fun t wr => ∃ k : Nat, 1 ≤ k ∧ k ≤ 15 ∧ t = .int .i64 k ∧ Hid (AskS w W0 wr g lv E p false (upTo (wordP l unK p) k) 0 (.slice none 0 0))) (fun t _ => 15 - (intOf t).toNat)
  case atStart => exact ⟨1, by omega, by omega, rfl, HX⟩
  case round =>
    obtain ⟨k, hk1', hk, rfl, HY⟩ := hrel
    clear HX HS
    by_cases hlt : k < 15
    · have hd : decide ((k : Int) ≤ 14) = true := decide_eq_true (by omega)
      have HGA := Lib.hid (askArgs_any (k : Int))
      have HW := Lib.hid (askWord_any k (by omega))
      go_wp2_with fail
      refine (HGA.out _).mono ?_
      rintro r w4 ⟨rfl, rfl⟩
      by_cases ha : arity (k : Int) < 2
      · have hd2 : decide (arity (k : Int) < 2) = true := decide_eq_true ha
        by_cases hs : tx l p false = wordB k
        · have hK := HWY.out k hk1' hlt ha hs
          have hwe : ((tx l p false).toList == (wordB k).toList) = true := by rw [hs]; simp
          clear ha hs
          generalize arity (k : Int) = a at *
          go_wp2_with fail
          refine (HTX.out _ p false (grownBel h0 hg HY.out.grew) (by omega) HY.out.1).mono ?_
          rintro r w5 ⟨rfl, hb3⟩
          replace HY := Lib.hid (HY.out.keep hb3)
          clear hb3
          go_wp2_with fail
          refine (HW.out _).mono ?_
          rintro r w6 ⟨rfl, hb4⟩
          replace HY := Lib.hid (HY.out.keep hb4)
          clear hb4
          obtain ⟨-, -, z0, z1, z2, fz0, fz1, fz2⟩ := HY.out.go
          go_wp2
          go_roundw
          case rel => exact ⟨k + 1, by omega, by omega, by go_num, Lib.hid (by rw [upTo_yes hK]; exact HY.out.put0 k)⟩
          case measure => simp [intOf]; omega
        · have hK : wordP l unK p ≠ some k := fun e => hs (HWN.out k hlt e).2
          have hwe : ((tx l p false).toList == (wordB k).toList) = false := str_false hs
          clear ha hs
          generalize arity (k : Int) = a at *
          go_wp2_with fail
          refine (HTX.out _ p false (grownBel h0 hg HY.out.grew) (by omega) HY.out.1).mono ?_
          rintro r w5 ⟨rfl, hb3⟩
          replace HY := Lib.hid (HY.out.keep hb3)
          clear hb3
          go_wp2_with fail
          refine (HW.out _).mono ?_
          rintro r w6 ⟨rfl, hb4⟩
          replace HY := Lib.hid (HY.out.keep hb4)
          clear hb4
          go_wp2
          go_roundw
          case rel => exact ⟨k + 1, by omega, by omega, by go_num, Lib.hid (by rw [upTo_no hK]; exact HY.out)⟩
          case measure => simp [intOf]; omega
      · have hd2 : decide (arity (k : Int) < 2) = false := decide_eq_false ha
        have hK : wordP l unK p ≠ some k := fun e => ha (HWN.out k hlt e).1
        clear ha
        generalize arity (k : Int) = a at *
        go_wp2
        go_roundw
        case rel => exact ⟨k + 1, by omega, by omega, by go_num, Lib.hid (by rw [upTo_no hK]; exact HY.out)⟩
        case measure => simp [intOf]; omega
    · obtain rfl : k = 15 := by omega
      have hd : decide (((15 : Nat) : Int) ≤ 14) = false := decide_eq_false (by omega)
      have HS : Hid (AskS w W0 wr g lv E p false kk 0 (.slice none 0 0)) := Lib.hid (by rw [← hup15]; exact HY.out)
      clear HY HWY HWN HWK hup15
      obtain ⟨-, -, z0, z1, z2, fz0, fz1, fz2⟩ := HS.out.go
      have hk0 : ((kk : Int) == 0) = false := by simp; omega
      have HW := Lib.hid (askWord_any kk (by omega))
      go_wp2_with fail
      refine (HW.out _).mono ?_
      rintro r w4 ⟨rfl, hb4⟩
      replace HS := Lib.hid (HS.out.keep hb4)
      clear hb4 z0 z1 z2 fz0 fz1 fz2
      go_wp2_with fail
      refine (HND.out _ p false _ (grownBel h0 hg HS.out.grew) (by omega) HS.out.1).mono ?_
      rintro r w5 ⟨⟨v5, rfl⟩, hp5, hg5⟩
      rw [HN2.out] at hp5
      replace HS := Lib.hid (HS.out.grown hg5 hp5)
      clear hg5 hp5 HN2
      obtain ⟨z3, fz3, z0, z1, z2, fz0, fz1, fz2⟩ := HS.out.go
      have HREC := Lib.hid (fun W q fl (hb : Bel w0 W) (hq : q ≤ l.length) (h : Rd W g lv q E fl) => ask_state l lv q E g fl (D + 1) (f q) W (hl.keep hb) hn hq h (hf q hq) (fun e => by subst e; exact hrec q W hq hb h))
      clear hrec hf
      obtain rfl := hkk.out
      clear z3 fz3 z0 z1 z2 fz0 fz1 fz2
      replace HS : Hid (AskS w W0 _ g lv E (p + 1) false 14 0 (.slice none 0 0)) := Lib.hid HS.out
      obtain ⟨z3, fz3, z0, z1, z2, fz0, fz1, fz2⟩ := HS.out.go
      have hka : arity (14 : Int) = 1 := rfl
      have hku2 : un 14 = true := rfl
      have hp7 : p + 1 ≤ l.length := hp
      have HNM := Lib.hid (fun W q fl (hb : Bel w0 W) (hq : q ≤ l.length) (h : Rd W g lv q E fl) => number_state l lv q E g fl W (hl.keep hb) hn hok hq h)
      have HNF := Lib.hid (numS_facts (f := false) hok hp7)
      have hl9 := HNF.out.2.1
      have HNP : Hid (nP l 14 (p + 1) = numP l false (p + 1)) := Lib.hid rfl
      go_wp2_with fail
      refine (HNM.out _ (p + 1) false (grownBel h0 hg HS.out.grew) hp7 HS.out.1).mono ?_
      rintro r w7 ⟨rfl, hr7, hg7⟩
      replace HS := Lib.hid (HS.out.grown hg7 hr7)
      clear hg7 hr7 z3 fz3 z0 z1 z2 fz0 fz1 fz2 HNM
      obtain ⟨z3, fz3, z0, z1, z2, fz0, fz1, fz2⟩ := HS.out.go
      have HN1 : Hid ((numS l (p + 1) false).2.2 = true → nP l 14 (p + 1) = .fail (numS l (p + 1) false).2.1) := Lib.hid fun e => by
        rcases HNF.out.2.2.2.1 e with h | h
        · cases h
        · rw [HNP.out, h]
      have HN2 : Hid ((numS l (p + 1) false).2.2 = false → nP l 14 (p + 1) = .ok (numS l (p + 1) false).1 (numS l (p + 1) false).2.1) := Lib.hid fun e => by rw [HNP.out, (HNF.out.2.2.2.2 e).2]
      clear HNF
      generalize numS l (p + 1) false = NS at *
      obtain ⟨n9, p9, f9⟩ := NS
      dsimp only at *
      go_upto_region 48 with fail
      clear z3 fz3 z0 z1 z2 fz0 fz1 fz2
      replace HS := Lib.hid (HS.out.put1 n9)
      generalize w7.setCell ⟨w.heap.size + 1, 1, none⟩ (.int .i64 n9) = W8 at *
      obtain ⟨z3, fz3, z0, z1, z2, fz0, fz1, fz2⟩ := HS.out.go
      have HGA := Lib.hid (askArgs_any (14 : Int))
      rw [hka] at HGA
      have hd60 : (D == 60) = false := by simp; omega
      go_wp2_with fail
      refine (HGA.out _).mono ?_
      rintro r w9 ⟨rfl, rfl⟩
      go_wp2_with fail
      refine (HREC.out _ p9 f9 (grownBel h0 hg HS.out.grew) (by omega) HS.out.1).mono ?_
      rintro r w5 ⟨p2, f2, k2, n2, A2, m2, c2, rfl, hg5, hp5, hl2, hT2, hF2⟩
      have hba := (Bel.rfl_ w5).al (.cells #[.int .i64 k2, .int .i64 n2, .slice A2 m2 c2] 24)
      have HAG2 : Hid (w.heap.size + 2 ≤ w5.heap.size) := Lib.hid (Nat.le_trans HS.out.size hg5.size)
      have hgl := HS.out.lt
      have HT2 := Lib.hid hT2
      have HF2 : Hid (f2 = false → f9 = false ∧ ∃ args, m2 = args.length ∧ f p9 = .ok (.mk k2 n2 args) p2 ∧ Sl askR (low (w.heap.size + 2) (w5.alloc (.cells #[.int .i64 k2, .int .i64 n2, .slice A2 m2 c2] 24))) (.slice A2 m2 c2) args) := Lib.hid fun e => by
        obtain ⟨hz0, args, h1, h2, h3⟩ := hF2 e
        exact ⟨hz0, args, h1, h2, (low_mono HS.out.size h3).keep (low_belB hba)⟩
      clear hT2 hF2
      have HBB := Lib.hid (low_blk (B := w.heap.size + 2) (Blk.new w5 24 #[.int .i64 k2, .int .i64 n2, .slice A2 m2 c2]) HAG2.out)
      replace HS := Lib.hid ((HS.out.grown hg5 hp5).keep hba)
      clear hg5 hp5 hba HREC z3 fz3 z0 z1 z2 fz0 fz1 fz2
      go_upto_region 53 with fail
      generalize w5.alloc (.cells #[.int .i64 k2, .int .i64 n2, .slice A2 m2 c2] 24) = W6 at *
      generalize w5.heap.size = GB at *
      have y0 := (low_unb HBB.out HAG2.out).cell (i := 0) (v := .int .i64 k2) rfl
      have y1 := (low_unb HBB.out HAG2.out).cell (i := 1) (v := .int .i64 n2) rfl
      have y2 := (low_unb HBB.out HAG2.out).cell (i := 2) (v := .slice A2 m2 c2) rfl
      have hb8 := (Bel.rfl_ W6).al (.cells #[.int .i64 k2, .int .i64 n2, .slice A2 m2 c2] 24)
      have HQG : Hid (w.heap.size + 2 ≤ W6.heap.size) := Lib.hid HS.out.size
      have HQN := Lib.hid (low_blk (B := w.heap.size + 2) (Blk.new W6 24 #[.int .i64 k2, .int .i64 n2, .slice A2 m2 c2]) HQG.out)
      replace HS := Lib.hid (HS.out.keep hb8)
      replace HF2 : Hid (f2 = false → f9 = false ∧ ∃ args, m2 = args.length ∧ f p9 = .ok (.mk k2 n2 args) p2 ∧ Sl askR (low (w.heap.size + 2) _) (.slice A2 m2 c2) args) := Lib.hid fun e => by
        obtain ⟨hz0, args, h1, h2, h3⟩ := HF2.out e
        exact ⟨hz0, args, h1, h2, h3.keep (low_belB hb8)⟩
      clear hb8
      obtain ⟨-, -, -, -, z2, -, -, fz2⟩ := HS.out.go
      go_upto_region 54 with fail
      clear y0 y1 y2 z2 fz2
      generalize W6.alloc (.cells #[.int .i64 k2, .int .i64 n2, .slice A2 m2 c2] 24) = W8 at *
      generalize W6.heap.size = GQ at *
      have hlow := low_set (B := w.heap.size + 2) W8 (g := w.heap.size + 1) (i := 2) (.slice (some ⟨GQ, 0, none⟩) 1 1) (by omega)
      replace HQN := Lib.hid (HQN.out.keep hlow)
      replace HF2 : Hid (f2 = false → f9 = false ∧ ∃ args, m2 = args.length ∧ f p9 = .ok (.mk k2 n2 args) p2 ∧ Sl askR (low (w.heap.size + 2) _) (.slice A2 m2 c2) args) := Lib.hid fun e => by
        obtain ⟨hz0, args, h1, h2, h3⟩ := HF2.out e
        exact ⟨hz0, args, h1, h2, h3.keep hlow⟩
      replace HS := Lib.hid (HS.out.put2 (.slice (some ⟨GQ, 0, none⟩) 1 1)).fresh
      clear hlow
      generalize W8.setCell ⟨w.heap.size + 1, 2, none⟩ (.slice (some ⟨GQ, 0, none⟩) 1 1) = W9 at *
      obtain ⟨-, -, z0, z1, z2, -, -, -⟩ := HS.out.go
      obtain ⟨r0, r1, r2, f0, f1_, f2_⟩ := HS.out.res
      go_wp2
      obtain ⟨d0, d1, d2, hrd, hgr, hlo⟩ := HS.out.done
      unfold resW at d0 d1 d2
      refine bodyPost_ret (v := .agg #[.int .i64 14, .int .i64 n9, .slice (some ⟨GQ, 0, none⟩) 1 1]) (by simp [results, d0, d1, d2, go_sem]) rfl ?_
      cases f2 with
      | true => exact .mkBad (by rcases HT2.out rfl with ⟨rfl, rfl⟩ | ⟨rfl, h⟩; exact un_bad (HN1.out rfl); rw [un_some (HN2.out rfl) hku2]; unfold unP; rw [h]) ⟨_, _, _, _, _, rfl⟩ hrd hgr
      | false =>
        obtain ⟨e1, args2, rfl, hfb, hsb⟩ := HF2.out rfl
        refine .mkGood (k := 14) (n := n9) (args := [.mk k2 n2 args2]) (p := p2) (by subst e1; rw [un_some (HN2.out rfl) hku2]; unfold unP; rw [hfb]; rfl) hgr ?_ hrd
        exact low_mono (by omega) (low_one (a := .mk k2 n2 args2) (low_unb (HQN.out.keep hlo) HQG.out) HQG.out (hsb.keep hlo))
end Go.Proofs.YtegknpffiaeohaaDoor
