/- What is wrong with a disk: both checks walked. Each lemma states its own conditions. -/
import Derived.Test.YtkojeofegoljpaaDskA
namespace Go.Proofs.Ytkojeofegoljpaa
open Go.RowKit

theorem dkLen {w : World} {d : Dk} {A1 A2 : Option Addr} {c1 c2 : Nat} (h1 : Sl strR w (.slice A1 d.kept.length c1) d.kept) (h2 : Sl wrR w (.slice A2 d.written.length c2) d.written) : d.kept.length ≤ 9223372036854775807 ∧ d.written.length ≤ 9223372036854775807 := by
  obtain ⟨_, _, e1, a1, b1, _⟩ := h1
  obtain ⟨_, _, e2, a2, b2, _⟩ := h2
  have := b1.1
  have := b2.1
  simp only [maxLen] at *
  omega
/-- what a slice's cells are -/
theorem Sl.at_ {α : Type} {r : Rep α} {w : World} {A : Option Addr} {n c : Nat} {xs : List α} (h : Sl r w (.slice A n c) xs) : 0 < xs.length → ∃ b o, A = some ⟨b, o, none⟩ ∧ ∀ k x, xs[k]? = some x → r.At w b (o + k * r.size) x := by
  obtain ⟨A', c', e, _, _, hA⟩ := h
  injection e with e1 e2 e3
  subst e1
  exact hA

set_option maxRecDepth 20000 in
set_option maxHeartbeats 1000000 in
theorem check_any (d : Dk) (val : Value) (w : World) (h : DkV w d val) (ho : d.ok) :
    Calls Try.prog 19 #[val] w fun r w' => r = .returned (.int .i64 d.err) ∧ Bel w w' := by
  obtain ⟨A1, c1, A2, c2, rfl, h1, h2⟩ := h
  obtain ⟨hl1, hl2⟩ := dkLen h1 h2
  have HC := Lib.hid (fun W (hb : Bel w W) => containsBad_any _ d.kept W (h1.keep hb) ho.1)
  have H2 := Lib.hid h2.at_
  have HW := Lib.hid ho.2
  have HT : Hid ((if 1 ≤ d.kept.length ∧ d.kept.length ≤ 600 then if d.kept.all (·.size == 32) = true then if d.written.length ≤ 600 then wErr d.kept.length d.written else 2 else 1 else 3) = d.err) := Lib.hid rfl
  clear h1 h2 ho
  generalize d.err = T at *
  generalize d.kept.all (·.size == 32) = AL at *
  generalize d.kept.length = n at *
  generalize d.written = ws at *
  by_cases hn : 1 ≤ n ∧ n ≤ 600
  · rw [if_pos hn] at HT
    obtain ⟨hn1, hn2⟩ := hn
    cases AL with
    | false =>
      rw [if_neg (by decide)] at HT
      go_enter Try.func19, Try.ntmps19
      go_wp2_with fail
      refine (HC.out _ ((Bel.rfl_ w).al _)).mono ?_
      rintro r w' ⟨rfl, rfl⟩
      go_wp2
      go_ret
      exact ⟨by rw [← HT.out]; rfl, (Bel.rfl_ w).al _⟩
    | true =>
      rw [if_pos rfl] at HT
      by_cases hw : ws.length ≤ 600
      · rw [if_pos hw] at HT
        go_enter Try.func19, Try.ntmps19
        go_wp2_with fail
        refine (HC.out _ ((Bel.rfl_ w).al _)).mono ?_
        rintro r w' ⟨rfl, rfl⟩
        go_wp2
        go_loopw [30] (fun i wr => ∃ k : Nat, i = .int .i64 k ∧ k ≤ ws.length ∧ Hid (wErr n (ws.drop k) = T) ∧ Hid (Bel (w.alloc (.cells #[.slice A1 n c1, .slice A2 ws.length c2] 25)) wr)) (fun i _ => ws.length - (intOf i).toNat)
        case atStart => exact ⟨0, rfl, by omega, by simpa using HT, Bel.rfl_ _⟩
        case round =>
          obtain ⟨k, rfl, hk, HE, HB⟩ := hrel
          have HB1 := Lib.hid (((Bel.rfl_ w).al _).tr HB.out)
          have q0 := ((Blk.new w 25 #[.slice A1 n c1, .slice A2 ws.length c2]).keep HB.out).cell (i := 0) rfl
          clear HT
          by_cases hlt : k < ws.length
          · obtain ⟨x, hx⟩ : ∃ s, ws[k]? = some s := ⟨_, List.getElem?_eq_getElem hlt⟩
            obtain ⟨b, o, rfl, hA⟩ := H2.out (by omega)
            obtain ⟨y0, y1⟩ := wrR.cells hA hx
            have y0 := HB1.out.cell y0
            have y1 := HB1.out.cell y1
            have HX := Lib.hid hx
            have HSS := Lib.hid (HW.out x (List.mem_of_getElem? hx))
            have HSTEP : Hid ((if 0 ≤ x.sector ∧ x.sector < n then if x.bytes.size = 32 then wErr n (ws.drop (k + 1)) else 1 else 5) = T) := Lib.hid (by rw [← HE.out, wErr_drop hx])
            have q0' := ((Bel.rfl_ wr).al (.cells #[.int .i64 x.sector, .string x.bytes] 71)).cell q0
            clear hA hx
            have HBAD := Lib.hid (fun W => bad_any x.bytes W HSS.out)
            generalize x.sector = xs at *
            generalize x.bytes = xb at *
            by_cases h0 : xs < 0
            · rw [if_neg (by omega)] at HSTEP
              go_wp2
              go_ret
              exact ⟨by rw [← HSTEP.out]; rfl, HB1.out.al _⟩
            · by_cases h3 : (n : Int) ≤ xs
              · rw [if_neg (by omega)] at HSTEP
                go_wp2
                go_ret
                exact ⟨by rw [← HSTEP.out]; rfl, HB1.out.al _⟩
              · rw [if_pos (by omega)] at HSTEP
                go_wp2_with fail
                refine (HBAD.out _).mono ?_
                rintro r w' ⟨rfl, rfl⟩
                cases hb : xb.size == 32 with
                | true =>
                  rw [if_pos (by simpa using hb)] at HSTEP
                  clear hb
                  go_wp2
                  go_roundw
                  case rel => exact ⟨k + 1, by go_num, by omega, HSTEP, HB.out.al _⟩
                  case measure => simp [intOf]; omega
                | false =>
                  rw [if_neg (by simpa using hb)] at HSTEP
                  clear hb
                  go_wp2
                  go_ret
                  exact ⟨by rw [← HSTEP.out]; rfl, HB1.out.al _⟩
          · have HE0 : Hid (0 = T) := Lib.hid (by rw [← HE.out, wErr_end (by omega)])
            go_wp2
            go_ret
            exact ⟨by rw [← HE0.out]; rfl, HB1.out⟩
      · rw [if_neg hw] at HT
        go_enter Try.func19, Try.ntmps19
        go_wp2_with fail
        refine (HC.out _ ((Bel.rfl_ w).al _)).mono ?_
        rintro r w' ⟨rfl, rfl⟩
        go_wp2
        go_ret
        exact ⟨by rw [← HT.out]; rfl, (Bel.rfl_ w).al _⟩
  · rw [if_neg hn] at HT
    by_cases h1 : n < 1
    · go_enter Try.func19, Try.ntmps19
      go_wp2
      go_ret
      exact ⟨by rw [← HT.out]; rfl, (Bel.rfl_ w).al _⟩
    · have h6 : 600 < n := by omega
      go_enter Try.func19, Try.ntmps19
      go_wp2
      go_ret
      exact ⟨by rw [← HT.out]; rfl, (Bel.rfl_ w).al _⟩

end Go.Proofs.Ytkojeofegoljpaa
