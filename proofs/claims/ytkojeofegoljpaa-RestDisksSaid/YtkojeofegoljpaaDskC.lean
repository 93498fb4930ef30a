/- What is wrong with a disk, the document's check; a sector read: walked. Each lemma states its own conditions. -/
import Derived.Test.YtkojeofegoljpaaDskB
namespace Go.Proofs.Ytkojeofegoljpaa
open Go.RowKit

set_option maxRecDepth 20000 in
set_option maxHeartbeats 1000000 in
theorem checkDisk_any (d : Dk) (val : Value) (w : World) (h : DkV w d val) (ho : d.ok) :
    Calls Try.prog 14 #[val] w fun r w' => r = .returned (.int .i64 d.err) ∧ Bel w w' := by
  obtain ⟨A1, c1, A2, c2, rfl, h1, h2⟩ := h
  obtain ⟨hl1, hl2⟩ := dkLen h1 h2
  have HBT := Lib.hid (fun n W => betws_any n 1 600 W)
  have HBS := Lib.hid (fun n m W => betws_any n 0 m W)
  have H1 := Lib.hid h1.at_
  have H2 := Lib.hid h2.at_
  have HW := Lib.hid ho.2
  have HK := Lib.hid ho.1
  have HT : Hid ((if 1 ≤ d.kept.length ∧ d.kept.length ≤ 600 then if d.kept.all (·.size == 32) = true then if d.written.length ≤ 600 then wErr d.kept.length d.written else 2 else 1 else 3) = d.err) := Lib.hid rfl
  clear h1 h2 ho
  generalize d.err = T at *
  generalize d.kept = ks at *
  generalize d.written = ws at *
  by_cases hn : 1 ≤ ks.length ∧ ks.length ≤ 600
  · rw [if_pos hn] at HT
    obtain ⟨hn1, hn2⟩ := hn
    have hdn : decide ((1 : Int) ≤ (ks.length : Int) ∧ (ks.length : Int) ≤ 600) = true := decide_eq_true (by omega)
    go_enter Try.func14, Try.ntmps14
    go_wp2_with fail
    refine (HBT.out _ _).mono ?_
    rintro r w' ⟨rfl, rfl⟩
    rw [hdn]
    clear hdn
    have q0 := (Blk.new w 25 #[.slice A1 ks.length c1, .slice A2 ws.length c2]).cell (i := 0) rfl
    have q1 := (Blk.new w 25 #[.slice A1 ks.length c1, .slice A2 ws.length c2]).cell (i := 1) rfl
    have hB0 : Bel w (w.alloc (.cells #[.slice A1 ks.length c1, .slice A2 ws.length c2] 25)) := (Bel.rfl_ w).al _
    have HB0 := Lib.hid hB0
    clear hB0
    go_wp2
    go_loopw [3] (fun i wr => ∃ k : Nat, i = .int .i64 k ∧ k ≤ ks.length ∧ Hid ((ks.take k).all (·.size == 32) = true) ∧ wr = w.alloc (.cells #[.slice A1 ks.length c1, .slice A2 ws.length c2] 25)) (fun i _ => ks.length - (intOf i).toNat)
    case atStart => exact ⟨0, rfl, by omega, rfl, rfl⟩
    case round =>
      obtain ⟨k, rfl, hk, HA, rfl⟩ := hrel
      by_cases hlt : k < ks.length
      · obtain ⟨s, hx⟩ : ∃ s, ks[k]? = some s := ⟨_, List.getElem?_eq_getElem hlt⟩
        obtain ⟨b, o, rfl, hA⟩ := H1.out (by omega)
        have x0 := HB0.out.cell (strR.cell hA hx)
        have HX := Lib.hid hx
        have hss := HK.out s (List.mem_of_getElem? hx)
        have hsl : s.size ≤ 9223372036854775807 := by simp only [maxLen] at hss; exact hss
        clear hA hx hss
        cases hb : s.size == 32 with
        | true =>
          have HA' : Hid ((ks.take (k + 1)).all (·.size == 32) = true) := Lib.hid (alls_take HX.out HA.out hb)
          have h32 : s.size = 32 := by simpa using hb
          clear hb
          go_wp2
          go_roundw
          case rel => exact ⟨k + 1, by go_num, by omega, HA', trivial⟩
          case measure => simp [intOf]; omega
        | false =>
          have HF : Hid (ks.all (·.size == 32) = false) := Lib.hid (alls_not HX.out hb)
          rw [HF.out, if_neg (by decide)] at HT
          have h32 : ¬ s.size = 32 := by simpa using hb
          have h33 : ((s.size : Int) != 32) = true := by simp; omega
          clear hb
          go_wp2
          go_ret
          exact ⟨by rw [← HT.out]; rfl, HB0.out⟩
      · have HF : Hid (ks.all (·.size == 32) = true) := Lib.hid (by have := HA.out; rw [List.take_of_length_le (by omega)] at this; exact this)
        rw [HF.out, if_pos rfl] at HT
        obtain rfl : k = ks.length := by omega
        clear HF HA
        by_cases hw : ws.length ≤ 600
        · rw [if_pos hw] at HT
          have hdw : decide ((600 : Int) < (ws.length : Int)) = false := decide_eq_false (by omega)
          have hdw2 : decide (600 < ws.length) = false := decide_eq_false (by omega)
          have hwr : IntKind.i64.wrap ((ks.length : Int) - 1) = (ks.length : Int) - 1 := by rw [IntKind.wrap_i64]; omega
          go_wp2
          go_loopw [4] (fun i wx => ∃ (k : Nat), i = .int .i64 k ∧ k ≤ ws.length ∧ Hid (wErr ks.length (ws.drop k) = T) ∧ Hid (Bel (w.alloc (.cells #[.slice A1 ks.length c1, .slice A2 ws.length c2] 25)) wx)) (fun i _ => ws.length - (intOf i).toNat)
          case atStart => exact ⟨0, rfl, by omega, by simpa using HT, Bel.rfl_ _⟩
          case round =>
            obtain ⟨k, rfl, hk, HE, HBW⟩ := hrel
            have q0 := ((Blk.new w 25 #[.slice A1 ks.length c1, .slice A2 ws.length c2]).keep HBW.out).cell (i := 0) rfl
            have q1 := ((Blk.new w 25 #[.slice A1 ks.length c1, .slice A2 ws.length c2]).keep HBW.out).cell (i := 1) rfl
            have HB2 := Lib.hid (HB0.out.tr HBW.out)
            clear HT
            by_cases hlt : k < ws.length
            · obtain ⟨x, hx⟩ : ∃ s, ws[k]? = some s := ⟨_, List.getElem?_eq_getElem hlt⟩
              obtain ⟨b, o, rfl, hA⟩ := H2.out (by omega)
              obtain ⟨y0, y1⟩ := wrR.cells hA hx
              have y0 := HB2.out.cell y0
              have y1 := HB2.out.cell y1
              have hss := HW.out x (List.mem_of_getElem? hx)
              have hsl : x.bytes.size ≤ 9223372036854775807 := by simp only [maxLen] at hss; exact hss
              have HSTEP : Hid ((if 0 ≤ x.sector ∧ x.sector < ks.length then if x.bytes.size = 32 then wErr ks.length (ws.drop (k + 1)) else 1 else 5) = T) := Lib.hid (by rw [← HE.out, wErr_drop hx])
              clear hA hx hss
              generalize x.sector = xs at *
              generalize x.bytes = xb at *
              have HIT := Lib.hid (fun W => HBS.out xs ((ks.length : Int) - 1) W)
              by_cases h0 : 0 ≤ xs ∧ xs < ks.length
              · rw [if_pos h0] at HSTEP
                rw [decide_eq_true (show 0 ≤ xs ∧ xs ≤ (ks.length : Int) - 1 by omega)] at HIT
                by_cases hb : xb.size = 32
                · rw [if_pos hb] at HSTEP
                  go_wp2
                  go_quiet ((go_at_call 43; exact Calls.quiet_of_same (HIT.out _)))
                  go_wp2
                  go_roundw
                  case rel => exact ⟨k + 1, by go_num, by omega, HSTEP, HBW.out.drN _⟩
                  case measure => simp [intOf]; omega
                · rw [if_neg hb] at HSTEP
                  have h33 : ((xb.size : Int) != 32) = true := by simp; omega
                  go_wp2
                  go_quiet ((go_at_call 43; exact Calls.quiet_of_same (HIT.out _)))
                  go_wp2
                  go_ret
                  exact ⟨by rw [← HSTEP.out]; rfl, HB2.out.drN _⟩
              · rw [if_neg h0] at HSTEP
                rw [decide_eq_false (show ¬ (0 ≤ xs ∧ xs ≤ (ks.length : Int) - 1) by omega)] at HIT
                go_wp2
                go_quiet ((go_at_call 43; exact Calls.quiet_of_same (HIT.out _)))
                go_wp2
                go_ret
                exact ⟨by rw [← HSTEP.out]; rfl, HB2.out.drN _⟩
            · have HE0 : Hid (0 = T) := Lib.hid (by rw [← HE.out, wErr_end (by omega)])
              go_wp2
              go_ret
              exact ⟨by rw [← HE0.out]; rfl, HB2.out⟩
        · rw [if_neg hw] at HT
          go_wp2
          go_ret
          exact ⟨by rw [← HT.out]; rfl, HB0.out⟩
  · rw [if_neg hn] at HT
    have hdn : decide ((1 : Int) ≤ (ks.length : Int) ∧ (ks.length : Int) ≤ 600) = false := decide_eq_false (by omega)
    go_enter Try.func14, Try.ntmps14
    go_wp2_with fail
    refine (HBT.out _ _).mono ?_
    rintro r w' ⟨rfl, rfl⟩
    rw [hdn]
    go_wp2
    go_ret
    exact ⟨by rw [← HT.out]; rfl, (Bel.rfl_ w).al _⟩

/-- .. with a sector's number -/
def Dk.one (d : Dk) (n : Int) : Int := if d.err = 0 then if 0 ≤ n ∧ n < d.kept.length then 0 else 5 else d.err
theorem one_any (d : Dk) (val : Value) (n : Int) (w : World) (h : DkV w d val) (ho : d.ok) :
    Calls Try.prog 38 #[val, .int .i64 n] w fun r w' => r = .returned (.int .i64 (d.one n)) ∧ Bel w w' := by
  have HC := Lib.hid (fun W (hb : Bel w W) => check_any d val W (h.keep hb) ho)
  have HT : Hid ((if d.err = 0 then if 0 ≤ n ∧ n < d.kept.length then (0 : Int) else 5 else d.err) = d.one n) := Lib.hid rfl
  obtain ⟨A1, c1, A2, c2, rfl, h1, h2⟩ := h
  obtain ⟨hl1, hl2⟩ := dkLen h1 h2
  clear h1 h2 ho
  generalize d.one n = T at *
  generalize d.err = E at *
  generalize d.kept.length = m at *
  generalize d.written.length = k at *
  go_enter Try.func38, Try.ntmps38
  go_wp2_with fail
  refine (HC.out _ ((Bel.rfl_ w).al _)).mono ?_
  rintro r w' ⟨rfl, hb⟩
  have q0 := ((Blk.new w 25 #[.slice A1 m c1, .slice A2 k c2]).keep hb).cell (i := 0) rfl
  have HB := Lib.hid (((Bel.rfl_ w).al _).tr hb)
  clear hb HC
  by_cases hE : E = 0
  · rw [if_pos hE] at HT
    by_cases h0 : n < 0
    · rw [if_neg (by omega)] at HT
      go_wp2
      go_ret
      exact ⟨by rw [← HT.out]; rfl, HB.out⟩
    · by_cases h3 : (m : Int) ≤ n
      · rw [if_neg (by omega)] at HT
        go_wp2
        go_ret
        exact ⟨by rw [← HT.out]; rfl, HB.out⟩
      · rw [if_pos (by omega)] at HT
        go_wp2
        go_ret
        exact ⟨by rw [← HT.out]; rfl, HB.out⟩
  · rw [if_neg hE] at HT
    go_wp2
    go_ret
    exact ⟨by rw [← HT.out]; rfl, HB.out⟩

end Go.Proofs.Ytkojeofegoljpaa
