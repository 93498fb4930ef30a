/- The document's reader of a pair in brackets: walked. Each lemma states its own conditions. -/
import Derived.Test.YtegknpffiaeohaaDoorRdrH
namespace Go.Proofs.YtegknpffiaeohaaDoor
open Go.RowKit

theorem binP_none {l : List Tok} {f : Nat → PR Ask} {p p1 : Nat} {f1 : Bool} (h1 : f1 = true → f (p + 1) = .fail p1) (h2 : f1 = false → ∃ a, f (p + 1) = .ok a p1) (hK : wordS l p1 f1 = none) : binP l f p = .fail p1 := by
  unfold binP
  cases f1 with
  | true => rw [h1 rfl]
  | false =>
    obtain ⟨a, h3⟩ := h2 rfl
    have h4 : wordP l binK p1 = none := hK
    rw [h3]
    simp only []
    rw [h4]

set_option maxRecDepth 20000 in
set_option maxHeartbeats 4000000 in
theorem pair_any (l : List Tok) (lv : Value) (p E g : Nat) (D : Int) (f : Nat → PR Ask) (w0 w : World) (hl : Sl tokR w0 lv l) (hn : l.length ≤ 6000) (h0 : Bel w0 w) (hg : w0.heap.size ≤ g) (h : Rd w g lv p E false) (hD : 0 ≤ D ∧ D < 60) (ht : tk l p lparB = true)
    (hrec : ∀ q W, q ≤ l.length → Bel w0 W → Rd W g lv q E false → Calls Tryd.prog 34 #[.pointer (some ⟨g, 0, none⟩), .int .i64 (D + 1)] W fun r w' => RdRes W g lv E (f q) r w')
    (hf : ∀ q, q ≤ l.length → Within l.length (f q)) :
    Calls Tryd.prog 34 #[.pointer (some ⟨g, 0, none⟩), .int .i64 D] w fun r w' => RdRes w g lv E (binP l f p) r w' := by
  have hp := tk_lt ht
  have htx : tx l p false = lparB := by
    rw [tk_tx (by decide)] at ht
    exact of_decide_eq_true ht
  have HTX := Lib.hid (fun W q fl (hb : Bel w0 W) (hq : q ≤ l.length) (h : Rd W g lv q E fl) => text_any l lv q E g fl W (hl.keep hb) hn hq h)
  have HND := Lib.hid (fun W q fl s (hb : Bel w0 W) (hq : q ≤ l.length) (h : Rd W g lv q E fl) => need_any l lv q E g fl s W (hl.keep hb) hn hq h)
  have HREC := Lib.hid (fun W q fl (hb : Bel w0 W) (hq : q ≤ l.length) (h : Rd W g lv q E fl) => ask_state l lv q E g fl (D + 1) (f q) W (hl.keep hb) hn hq h (hf q hq) (fun e => by subst e; exact hrec q W hq hb h))
  have HN1 : Hid (needS l p false ⟨#[40]⟩ = (p + 1, false)) := Lib.hid (needS_yes htx)
  have HS := Lib.hid (AskS.start (E := E) h)
  have e40 : ((tx l p false).toList == [40]) = true := lit_true htx
  have hd60 : (D == 60) = false := by simp; omega
  clear h ht htx hrec
  go_enter Tryd.func34, Tryd.ntmps34
  go_upto_region 2 with fail
  generalize (w.alloc (.cells #[.int .i64 0, .int .i64 0, .slice none 0 0] 24)).alloc (.cells #[.int .i64 0, .int .i64 0, .slice none 0 0] 24) = W0 at *
  go_wp2_with fail
  refine (HTX.out _ p false (grownBel h0 hg HS.out.grew) (by omega) HS.out.1).mono ?_
  rintro r w1 ⟨rfl, hb⟩
  replace HS := Lib.hid (HS.out.keep hb)
  clear hb
  go_wp2_with fail
  refine (HND.out _ p false _ (grownBel h0 hg HS.out.grew) (by omega) HS.out.1).mono ?_
  rintro r w2 ⟨⟨v2, rfl⟩, hp2, hg2⟩
  rw [HN1.out] at hp2
  replace HS := Lib.hid (HS.out.grown hg2 hp2)
  clear hp2 hg2 HN1
  go_wp2_with fail
  refine (HREC.out _ (p + 1) false (grownBel h0 hg HS.out.grew) (by omega) HS.out.1).mono ?_
  rintro r w3 ⟨p1, f1, k1, n1, A1, m1, c1, rfl, hg3, hp3, hl1, hT1, hF1⟩
  have hba := (Bel.rfl_ w3).al (.cells #[.int .i64 k1, .int .i64 n1, .slice A1 m1 c1] 24)
  have HAG : Hid (w.heap.size + 2 ≤ w3.heap.size) := Lib.hid (Nat.le_trans HS.out.size hg3.size)
  have HT1 : Hid (f1 = true → f (p + 1) = .fail p1) := Lib.hid fun e => by
    rcases hT1 e with ⟨h1, -⟩ | ⟨-, h2⟩
    · cases h1
    · exact h2
  have HF1 : Hid (f1 = false → ∃ args, m1 = args.length ∧ f (p + 1) = .ok (.mk k1 n1 args) p1 ∧ Sl askR (low (w.heap.size + 2) (w3.alloc (.cells #[.int .i64 k1, .int .i64 n1, .slice A1 m1 c1] 24))) (.slice A1 m1 c1) args) := Lib.hid fun e => by
    obtain ⟨-, args, h1, h2, h3⟩ := hF1 e
    exact ⟨args, h1, h2, (low_mono HS.out.size h3).keep (low_belB hba)⟩
  have HAB := Lib.hid (low_blk (B := w.heap.size + 2) (Blk.new w3 24 #[.int .i64 k1, .int .i64 n1, .slice A1 m1 c1]) HAG.out)
  replace HS := Lib.hid ((HS.out.grown hg3 hp3).keep hba)
  replace HS := Lib.hid HS.out.fresh
  clear hg3 hp3 hT1 hF1 hba
  go_upto_region 8 with fail
  generalize w3.alloc (.cells #[.int .i64 k1, .int .i64 n1, .slice A1 m1 c1] 24) = W3 at *
  generalize w3.heap.size = GA at *
  have HX : Hid (AskS w W3 W3 g lv E p1 f1 (upTo (wordS l p1 f1) 8) 0 (.slice none 0 0)) := Lib.hid (by rw [wordS_upTo.1]; exact HS.out)
  go_wp2
  go_loopw [7] (fun t wr => ∃ k : Nat, 8 ≤ k ∧ k ≤ 14 ∧ t = .int .i64 k ∧ Hid (AskS w W3 wr g lv E p1 f1 (upTo (wordS l p1 f1) k) 0 (.slice none 0 0))) (fun t _ => 14 - (intOf t).toNat)
  case atStart => exact ⟨8, by omega, by omega, rfl, HX⟩
  case round =>
    obtain ⟨k, hk1, hk, rfl, HY⟩ := hrel
    clear HX HS
    by_cases hlt : k < 14
    · have hd : decide ((k : Int) ≤ 13) = true := decide_eq_true (by omega)
      have HGA := Lib.hid (askArgs_any (k : Int))
      have HW := Lib.hid (askWord_any k (by omega))
      go_wp2_with fail
      refine (HGA.out _).mono ?_
      rintro r w4 ⟨rfl, rfl⟩
      by_cases ha : arity (k : Int) = 2
      · have hd2 : (arity (k : Int) == 2) = true := by simpa using ha
        by_cases hs : tx l p1 f1 = wordB k
        · have hK := wordS_yes (by omega) (by omega) ha hs
          have hwe : ((tx l p1 f1).toList == (wordB k).toList) = true := by rw [hs]; simp
          clear ha hs
          generalize arity (k : Int) = a at *
          go_wp2_with fail
          refine (HTX.out _ p1 f1 (grownBel h0 hg HY.out.grew) hl1 HY.out.1).mono ?_
          rintro r w5 ⟨rfl, hb3⟩
          replace HY := Lib.hid (HY.out.keep hb3)
          clear hb3
          go_wp2_with fail
          refine (HW.out _).mono ?_
          rintro r w6 ⟨rfl, hb4⟩
          replace HY := Lib.hid (HY.out.keep hb4)
          clear hb4
          obtain ⟨-, -, z0, z1, z2, fz0, fz1, fz2⟩ := HY.out.go
          go_wp2
          go_roundw
          case rel => exact ⟨k + 1, by omega, by omega, by go_num, Lib.hid (by rw [upTo_yes hK]; exact HY.out.put0 k)⟩
          case measure => simp [intOf]; omega
        · have hK : wordS l p1 f1 ≠ some k := fun e => hs (wordS_some e).2.2.2.2.1
          have hwe : ((tx l p1 f1).toList == (wordB k).toList) = false := str_false hs
          clear ha hs
          generalize arity (k : Int) = a at *
          go_wp2_with fail
          refine (HTX.out _ p1 f1 (grownBel h0 hg HY.out.grew) hl1 HY.out.1).mono ?_
          rintro r w5 ⟨rfl, hb3⟩
          replace HY := Lib.hid (HY.out.keep hb3)
          clear hb3
          go_wp2_with fail
          refine (HW.out _).mono ?_
          rintro r w6 ⟨rfl, hb4⟩
          replace HY := Lib.hid (HY.out.keep hb4)
          clear hb4
          go_wp2
          go_roundw
          case rel => exact ⟨k + 1, by omega, by omega, by go_num, Lib.hid (by rw [upTo_no hK]; exact HY.out)⟩
          case measure => simp [intOf]; omega
      · have hd2 : (arity (k : Int) == 2) = false := by simpa using ha
        have hK : wordS l p1 f1 ≠ some k := fun e => ha (wordS_some e).2.2.2.1
        clear ha
        generalize arity (k : Int) = a at *
        go_wp2
        go_roundw
        case rel => exact ⟨k + 1, by omega, by omega, by go_num, Lib.hid (by rw [upTo_no hK]; exact HY.out)⟩
        case measure => simp [intOf]; omega
    · obtain rfl : k = 14 := by omega
      have hd : decide (((14 : Nat) : Int) ≤ 13) = false := decide_eq_false (by omega)
      have HS := HY
      clear HY
      replace HAB := Lib.hid (HAB.out.keep HS.out.low_)
      replace HF1 : Hid (f1 = false → ∃ args, m1 = args.length ∧ f (p + 1) = .ok (.mk k1 n1 args) p1 ∧ Sl askR (low (w.heap.size + 2) wr) (.slice A1 m1 c1) args) := Lib.hid fun e => by
        obtain ⟨args, h1, h2, h3⟩ := HF1.out e
        exact ⟨args, h1, h2, h3.keep HS.out.low_⟩
      replace HS := Lib.hid HS.out.fresh
      cases hK : wordS l p1 f1 with
      | none =>
        have HBP := Lib.hid (binP_none (p := p) HT1.out (fun e => by obtain ⟨args, -, h2, -⟩ := HF1.out e; exact ⟨_, h2⟩) hK)
        have HS0 := HS.out
        rw [hK] at HS0
        replace HS : Hid (AskS w wr wr g lv E p1 f1 0 0 (.slice none 0 0)) := Lib.hid HS0
        clear HS0 HF1 HT1 hK HTX
        obtain ⟨z3, fz, z0, z1, z2, fz0, fz1, fz2⟩ := HS.out.go
        replace HS := Lib.hid HS.out.bad
        replace HAB := Lib.hid (HAB.out.keep (low_set wr (i := 3) (.bool true) (show g < w.heap.size + 2 by have := HS.out.lt; omega)))
        go_wp2_with fail
        refine (HREC.out _ p1 true (grownBel h0 hg HS.out.grew) hl1 HS.out.1).mono ?_
        rintro r w5 ⟨p2, f2, k2, n2, A2, m2, c2, rfl, hg5, hp5, hl2, hT2, hF2⟩
        have hf2 : f2 = true := by
          cases f2 with
          | true => rfl
          | false => exact absurd (hF2 rfl).1 (by decide)
        subst hf2
        have hp2 : p2 = p1 := by
          rcases hT2 rfl with ⟨-, h⟩ | ⟨h, -⟩
          · exact h
          · cases h
        subst hp2
        clear hT2 hF2 z3 fz z0 z1 z2 fz0 fz1 fz2
        have hba := (Bel.rfl_ w5).al (.cells #[.int .i64 k2, .int .i64 n2, .slice A2 m2 c2] 24)
        have HAG2 : Hid (w.heap.size + 2 ≤ w5.heap.size) := Lib.hid (Nat.le_trans HS.out.size hg5.size)
        have hgl := HS.out.lt
        replace HAB := Lib.hid ((HAB.out.keep (low_grown hg5 (by omega))).keep (low_belB hba))
        have HBB := Lib.hid (low_blk (B := w.heap.size + 2) (Blk.new w5 24 #[.int .i64 k2, .int .i64 n2, .slice A2 m2 c2]) HAG2.out)
        replace HS := Lib.hid ((HS.out.grown hg5 hp5).keep hba)
        clear hg5 hp5 hba HREC
        go_upto_region 17 with fail
        generalize w5.alloc (.cells #[.int .i64 k2, .int .i64 n2, .slice A2 m2 c2] 24) = W6 at *
        generalize w5.heap.size = GB at *
        go_wp2_with fail
        refine (HND.out _ p2 true _ (grownBel h0 hg HS.out.grew) hl2 HS.out.1).mono ?_
        rintro r w7 ⟨⟨v7, rfl⟩, hp7, hg7⟩
        replace HAB := Lib.hid (HAB.out.keep (low_grown hg7 (by omega)))
        replace HBB := Lib.hid (HBB.out.keep (low_grown hg7 (by omega)))
        replace HS := Lib.hid (HS.out.grown hg7 hp7)
        clear hg7 hp7 HND
        have x0 := (low_unb HAB.out HAG.out).cell (i := 0) (v := .int .i64 k1) rfl
        have x1 := (low_unb HAB.out HAG.out).cell (i := 1) (v := .int .i64 n1) rfl
        have x2 := (low_unb HAB.out HAG.out).cell (i := 2) (v := .slice A1 m1 c1) rfl
        have y0 := (low_unb HBB.out HAG2.out).cell (i := 0) (v := .int .i64 k2) rfl
        have y1 := (low_unb HBB.out HAG2.out).cell (i := 1) (v := .int .i64 n2) rfl
        have y2 := (low_unb HBB.out HAG2.out).cell (i := 2) (v := .slice A2 m2 c2) rfl
        have hb8 := (Bel.rfl_ w7).al (.cells #[.int .i64 k1, .int .i64 n1, .slice A1 m1 c1, .int .i64 k2, .int .i64 n2, .slice A2 m2 c2] 24)
        have HQG : Hid (w.heap.size + 2 ≤ w7.heap.size) := Lib.hid HS.out.size
        have HQN := Lib.hid (low_blk (B := w.heap.size + 2) (Blk.new w7 24 #[.int .i64 k1, .int .i64 n1, .slice A1 m1 c1, .int .i64 k2, .int .i64 n2, .slice A2 m2 c2]) HQG.out)
        replace HS := Lib.hid (HS.out.keep hb8)
        clear hb8
        obtain ⟨-, -, -, -, z2, -, -, fz2⟩ := HS.out.go
        go_upto_region 19 with fail
        clear x0 x1 x2 y0 y1 y2 z2 fz2
        generalize w7.alloc (.cells #[.int .i64 k1, .int .i64 n1, .slice A1 m1 c1, .int .i64 k2, .int .i64 n2, .slice A2 m2 c2] 24) = W8 at *
        generalize w7.heap.size = GQ at *
        have hlow := low_set (B := w.heap.size + 2) W8 (g := w.heap.size + 1) (i := 2) (.slice (some ⟨GQ, 0, none⟩) 2 2) (by omega)
        replace HQN := Lib.hid (HQN.out.keep hlow)
        replace HS := Lib.hid (HS.out.put2 (.slice (some ⟨GQ, 0, none⟩) 2 2)).fresh
        clear hlow
        generalize W8.setCell ⟨w.heap.size + 1, 2, none⟩ (.slice (some ⟨GQ, 0, none⟩) 2 2) = W9 at *
        obtain ⟨-, -, z0, z1, z2, -, -, -⟩ := HS.out.go
        obtain ⟨r0, r1, r2, f0, f1_, f2_⟩ := HS.out.res
        go_wp2
        obtain ⟨d0, d1, d2, hrd, hgr, hlo⟩ := HS.out.done
        unfold resW at d0 d1 d2
        refine bodyPost_ret (v := .agg #[.int .i64 0, .int .i64 0, .slice (some ⟨GQ, 0, none⟩) 2 2]) (by simp [results, d0, d1, d2, go_sem]) rfl ?_
        exact .mkBad HBP.out ⟨_, _, _, _, _, rfl⟩ hrd hgr
      | some k =>
        obtain ⟨hf1, hk8, hk13, -, hkt, hkw⟩ := wordS_some hK
        subst hf1
        have HN2 : Hid (needS l p1 false (wordB k) = (p1 + 1, false)) := Lib.hid (needS_yes hkt)
        have hl1' := tx_lt (word_emp ⟨k, by omega⟩ (by show 1 ≤ k; omega)) hkt
        obtain ⟨args1, rfl, hfa, hs1⟩ := HF1.out rfl
        clear HF1
        have HF1 := Lib.hid hs1
        clear hs1
        have HFA := Lib.hid hfa
        have HKW := Lib.hid hkw
        have HS0 := HS.out
        rw [wordS_upTo.2, hK] at HS0
        replace HS : Hid (AskS w wr wr g lv E p1 false k 0 (.slice none 0 0)) := Lib.hid HS0
        clear HS0 HT1 hK HTX hfa hkw hkt
        obtain ⟨-, -, z0, z1, z2, fz0, fz1, fz2⟩ := HS.out.go
        have hk0 : ((k : Int) == 0) = false := by simp; omega
        have HW := Lib.hid (askWord_any k (by omega))
        go_wp2_with fail
        refine (HW.out _).mono ?_
        rintro r w4 ⟨rfl, hb4⟩
        replace HAB := Lib.hid (HAB.out.keep (low_belB hb4))
        replace HF1 := Lib.hid (HF1.out.keep (low_belB hb4))
        replace HS := Lib.hid (HS.out.keep hb4)
        clear hb4 z0 z1 z2 fz0 fz1 fz2
        go_wp2_with fail
        refine (HND.out _ p1 false _ (grownBel h0 hg HS.out.grew) hl1 HS.out.1).mono ?_
        rintro r w4' ⟨⟨v4, rfl⟩, hp4, hg4⟩
        rw [HN2.out] at hp4
        replace HAB := Lib.hid (HAB.out.keep (low_grown hg4 (by have := HS.out.lt; omega)))
        replace HF1 := Lib.hid (HF1.out.keep (low_grown hg4 (by have := HS.out.lt; omega)))
        replace HS := Lib.hid (HS.out.grown hg4 hp4)
        clear hg4 hp4 HN2
        go_wp2_with fail
        refine (HREC.out _ (p1 + 1) false (grownBel h0 hg HS.out.grew) (by omega) HS.out.1).mono ?_
        rintro r w5 ⟨p2, f2, k2, n2, A2, m2, c2, rfl, hg5, hp5, hl2, hT2, hF2⟩
        have hba := (Bel.rfl_ w5).al (.cells #[.int .i64 k2, .int .i64 n2, .slice A2 m2 c2] 24)
        have HAG2 : Hid (w.heap.size + 2 ≤ w5.heap.size) := Lib.hid (Nat.le_trans HS.out.size hg5.size)
        have hgl := HS.out.lt
        replace HAB := Lib.hid ((HAB.out.keep (low_grown hg5 (by omega))).keep (low_belB hba))
        replace HF1 := Lib.hid ((HF1.out.keep (low_grown hg5 (by omega))).keep (low_belB hba))
        have HT2 : Hid (f2 = true → f (p1 + 1) = .fail p2) := Lib.hid fun e => by
          rcases hT2 e with ⟨h1, -⟩ | ⟨-, h2⟩
          · cases h1
          · exact h2
        have HF2 : Hid (f2 = false → ∃ args, m2 = args.length ∧ f (p1 + 1) = .ok (.mk k2 n2 args) p2 ∧ Sl askR (low (w.heap.size + 2) (w5.alloc (.cells #[.int .i64 k2, .int .i64 n2, .slice A2 m2 c2] 24))) (.slice A2 m2 c2) args) := Lib.hid fun e => by
          obtain ⟨-, args, h1, h2, h3⟩ := hF2 e
          exact ⟨args, h1, h2, (low_mono HS.out.size h3).keep (low_belB hba)⟩
        clear hT2 hF2
        have HBB := Lib.hid (low_blk (B := w.heap.size + 2) (Blk.new w5 24 #[.int .i64 k2, .int .i64 n2, .slice A2 m2 c2]) HAG2.out)
        replace HS := Lib.hid ((HS.out.grown hg5 hp5).keep hba)
        clear hg5 hp5 hba HREC
        go_upto_region 17 with fail
        generalize w5.alloc (.cells #[.int .i64 k2, .int .i64 n2, .slice A2 m2 c2] 24) = W6 at *
        generalize w5.heap.size = GB at *
        go_wp2_with fail
        refine (HND.out _ p2 f2 _ (grownBel h0 hg HS.out.grew) hl2 HS.out.1).mono ?_
        rintro r w7 ⟨⟨v7, rfl⟩, hp7, hg7⟩
        replace HAB := Lib.hid (HAB.out.keep (low_grown hg7 (by omega)))
        replace HBB := Lib.hid (HBB.out.keep (low_grown hg7 (by omega)))
        replace HF1 := Lib.hid (HF1.out.keep (low_grown hg7 (by omega)))
        replace HF2 : Hid (f2 = false → ∃ args, m2 = args.length ∧ f (p1 + 1) = .ok (.mk k2 n2 args) p2 ∧ Sl askR (low (w.heap.size + 2) _) (.slice A2 m2 c2) args) := Lib.hid fun e => by
          obtain ⟨args, h1, h2, h3⟩ := HF2.out e
          exact ⟨args, h1, h2, h3.keep (low_grown hg7 (by omega))⟩
        replace HS := Lib.hid (HS.out.grown hg7 hp7)
        clear hg7 hp7 HND
        have x0 := (low_unb HAB.out HAG.out).cell (i := 0) (v := .int .i64 k1) rfl
        have x1 := (low_unb HAB.out HAG.out).cell (i := 1) (v := .int .i64 n1) rfl
        have x2 := (low_unb HAB.out HAG.out).cell (i := 2) (v := .slice A1 args1.length c1) rfl
        have y0 := (low_unb HBB.out HAG2.out).cell (i := 0) (v := .int .i64 k2) rfl
        have y1 := (low_unb HBB.out HAG2.out).cell (i := 1) (v := .int .i64 n2) rfl
        have y2 := (low_unb HBB.out HAG2.out).cell (i := 2) (v := .slice A2 m2 c2) rfl
        have hb8 := (Bel.rfl_ w7).al (.cells #[.int .i64 k1, .int .i64 n1, .slice A1 args1.length c1, .int .i64 k2, .int .i64 n2, .slice A2 m2 c2] 24)
        have HQG : Hid (w.heap.size + 2 ≤ w7.heap.size) := Lib.hid HS.out.size
        have HQN := Lib.hid (low_blk (B := w.heap.size + 2) (Blk.new w7 24 #[.int .i64 k1, .int .i64 n1, .slice A1 args1.length c1, .int .i64 k2, .int .i64 n2, .slice A2 m2 c2]) HQG.out)
        replace HS := Lib.hid (HS.out.keep hb8)
        replace HF1 := Lib.hid (HF1.out.keep (low_belB hb8))
        replace HF2 : Hid (f2 = false → ∃ args, m2 = args.length ∧ f (p1 + 1) = .ok (.mk k2 n2 args) p2 ∧ Sl askR (low (w.heap.size + 2) _) (.slice A2 m2 c2) args) := Lib.hid fun e => by
          obtain ⟨args, h1, h2, h3⟩ := HF2.out e
          exact ⟨args, h1, h2, h3.keep (low_belB hb8)⟩
        clear hb8
        obtain ⟨-, -, -, -, z2, -, -, fz2⟩ := HS.out.go
        go_upto_region 19 with fail
        clear x0 x1 x2 y0 y1 y2 z2 fz2
        generalize w7.alloc (.cells #[.int .i64 k1, .int .i64 n1, .slice A1 args1.length c1, .int .i64 k2, .int .i64 n2, .slice A2 m2 c2] 24) = W8 at *
        generalize w7.heap.size = GQ at *
        have hlow := low_set (B := w.heap.size + 2) W8 (g := w.heap.size + 1) (i := 2) (.slice (some ⟨GQ, 0, none⟩) 2 2) (by omega)
        replace HQN := Lib.hid (HQN.out.keep hlow)
        replace HF1 := Lib.hid (HF1.out.keep hlow)
        replace HF2 : Hid (f2 = false → ∃ args, m2 = args.length ∧ f (p1 + 1) = .ok (.mk k2 n2 args) p2 ∧ Sl askR (low (w.heap.size + 2) _) (.slice A2 m2 c2) args) := Lib.hid fun e => by
          obtain ⟨args, h1, h2, h3⟩ := HF2.out e
          exact ⟨args, h1, h2, h3.keep hlow⟩
        replace HS := Lib.hid (HS.out.put2 (.slice (some ⟨GQ, 0, none⟩) 2 2)).fresh
        clear hlow
        generalize W8.setCell ⟨w.heap.size + 1, 2, none⟩ (.slice (some ⟨GQ, 0, none⟩) 2 2) = W9 at *
        obtain ⟨-, -, z0, z1, z2, -, -, -⟩ := HS.out.go
        obtain ⟨r0, r1, r2, f0, f1_, f2_⟩ := HS.out.res
        go_wp2
        obtain ⟨d0, d1, d2, hrd, hgr, hlo⟩ := HS.out.done
        unfold resW at d0 d1 d2
        refine bodyPost_ret (v := .agg #[.int .i64 k, .int .i64 0, .slice (some ⟨GQ, 0, none⟩) 2 2]) (by simp [results, d0, d1, d2, go_sem]) rfl ?_
        cases f2 with
        | true => exact .mkBad (by unfold binP; rw [HFA.out]; simp only []; rw [HKW.out]; simp only []; rw [HT2.out rfl]; rfl) ⟨_, _, _, _, _, rfl⟩ hrd hgr
        | false =>
          obtain ⟨args2, rfl, hfb, hsb⟩ := HF2.out rfl
          by_cases hr : tx l p2 false = rparB
          · have hN : needS l p2 false ⟨#[41]⟩ = (p2 + 1, false) := needS_yes hr
            rw [hN] at hrd
            refine .mkGood (k := k) (n := 0) (args := [.mk k1 n1 args1, .mk k2 n2 args2]) (p := p2 + 1) ?_ hgr ?_ hrd
            · unfold binP; rw [HFA.out]; simp only []; rw [HKW.out]; simp only []; rw [hfb]; simp only []
              rw [if_pos (by rw [tk_tx (by decide)]; exact decide_eq_true hr)]
            · exact low_mono (by omega) (low_two (a := .mk k1 n1 args1) (b := .mk k2 n2 args2) (low_unb (HQN.out.keep hlo) HQG.out) HQG.out (HF1.out.keep hlo) (hsb.keep hlo))
          · have hN : needS l p2 false ⟨#[41]⟩ = (p2, true) := needS_no hr
            rw [hN] at hrd
            refine .mkBad ?_ ⟨_, _, _, _, _, rfl⟩ hrd hgr
            unfold binP; rw [HFA.out]; simp only []; rw [HKW.out]; simp only []; rw [hfb]; simp only []
            rw [if_neg (by rw [tk_tx (by decide)]; simpa using hr)]
end Go.Proofs.YtegknpffiaeohaaDoor
