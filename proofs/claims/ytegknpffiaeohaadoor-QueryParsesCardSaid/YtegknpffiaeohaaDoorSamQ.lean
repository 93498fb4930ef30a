/- Same queries are found to be the same, same lists of truths too: walked. Each lemma states its own conditions. -/
import Derived.Test.YtegknpffiaeohaaDoorOnceQ
import Derived.Deep.RegionHeld3
import Derived.Deep.DeepCutAuto
namespace Go.Proofs.YtegknpffiaeohaaDoor
open Go.RowKit

set_option maxRecDepth 20000 in
set_option maxHeartbeats 1000000 in
theorem sameAsk_step (k n : Int) (args : List Ask) (IH : ∀ x ∈ args, ∀ (va vb : Value) (W : World), AskV W x va → AskV W x vb → Calls Tryd.prog 15 #[va, vb] W fun r w' => r = .returned (.bool true) ∧ Bel W w')
    (va vb : Value) (w : World) (ha : AskV w (.mk k n args) va) (hb : AskV w (.mk k n args) vb) :
    Calls Tryd.prog 15 #[va, vb] w fun r w' => r = .returned (.bool true) ∧ Bel w w' := by
  obtain ⟨v, rfl, hsa⟩ := ha
  obtain ⟨v', rfl, hsb⟩ := hb
  obtain ⟨A, c, rfl, hc, hm, hA⟩ := hsa
  obtain ⟨B, d, rfl, -, -, hB⟩ := hsb
  have HI := Lib.hid IH
  have HA := Lib.hid hA
  have HBB := Lib.hid hB
  have hlm : args.length ≤ 9223372036854775807 := by have := hm.1; simp only [maxLen] at this; simp only [Ask.args] at hc; omega
  simp only [Ask.kind, Ask.n, Ask.args] at HA HBB hc ⊢
  have HQ := Lib.hid ((Blk.new w 24 #[.int .i64 k, .int .i64 n, .slice A args.length c]).keep ((Bel.rfl_ _).al (.cells #[.int .i64 k, .int .i64 n, .slice B args.length d] 24)))
  have HR := Lib.hid (Blk.new (w.alloc (.cells #[.int .i64 k, .int .i64 n, .slice A args.length c] 24)) 24 #[.int .i64 k, .int .i64 n, .slice B args.length d])
  have HB := Lib.hid (((Bel.rfl_ w).al (.cells #[.int .i64 k, .int .i64 n, .slice A args.length c] 24)).al (.cells #[.int .i64 k, .int .i64 n, .slice B args.length d] 24))
  rw [World.size_alloc] at HR
  clear hA hB IH hm
  go_enter Tryd.func15, Tryd.ntmps15
  go_upto_region 1 with fail
  generalize (w.alloc (.cells #[.int .i64 k, .int .i64 n, .slice A args.length c] 24)).alloc (.cells #[.int .i64 k, .int .i64 n, .slice B args.length d] 24) = W0 at *
  have q0 := HQ.out.cell (i := 0) (v := .int .i64 k) rfl
  have q1 := HQ.out.cell (i := 1) (v := .int .i64 n) rfl
  have q2 := HQ.out.cell (i := 2) (v := .slice A args.length c) rfl
  have r0 := HR.out.cell (i := 0) (v := .int .i64 k) rfl
  have r1 := HR.out.cell (i := 1) (v := .int .i64 n) rfl
  have r2 := HR.out.cell (i := 2) (v := .slice B args.length d) rfl
  have HRF := Lib.hid (Bel.rfl_ W0)
  go_wp2
  clear q0 q1 q2 r0 r1 r2
  go_loopw [5] (fun t wr => ∃ j : Nat, j ≤ args.length ∧ t = .int .i64 j ∧ Hid (Bel W0 wr)) (fun t _ => args.length - (intOf t).toNat)
  case atStart => exact ⟨0, by omega, rfl, HRF⟩
  case round =>
    obtain ⟨j, hj, rfl, HX⟩ := hrel
    have q2 := (HQ.out.keep HX.out).cell (i := 2) (v := .slice A args.length c) rfl
    by_cases hlt : j < args.length
    · have hd : decide ((j : Int) < args.length) = true := decide_eq_true (by omega)
      obtain ⟨x, hx⟩ : ∃ x, args[j]? = some x := ⟨_, List.getElem?_eq_getElem hlt⟩
      obtain ⟨b, o, rfl, hca⟩ := HA.out (by omega)
      obtain ⟨b', o', rfl, hcb⟩ := HBB.out (by omega)
      obtain ⟨X, mx, cx, sx, x0, x1, x2⟩ := askR.cells hca hx
      obtain ⟨Y, my, cy, sy, y0, y1, y2⟩ := askR.cells hcb hx
      have HIX := Lib.hid (fun W (hb : Bel w W) => HI.out x (List.mem_of_getElem? hx) _ _ W ⟨_, rfl, sx.keep hb⟩ ⟨_, rfl, sy.keep hb⟩)
      have HC := Lib.hid (fun W (hb : Bel wr W) => And.intro ((HQ.out.keep (HX.out.tr hb)).cell (i := 2) (v := .slice (some ⟨b, o, none⟩) args.length c) rfl) (And.intro ((HR.out.keep (HX.out.tr hb)).cell (i := 2) (v := .slice (some ⟨b', o', none⟩) args.length d) rfl)
        (And.intro (And.intro (((HB.out.tr HX.out).tr hb).cell x0) (And.intro (((HB.out.tr HX.out).tr hb).cell x1) (((HB.out.tr HX.out).tr hb).cell x2)))
          (And.intro (((HB.out.tr HX.out).tr hb).cell y0) (And.intro (((HB.out.tr HX.out).tr hb).cell y1) (((HB.out.tr HX.out).tr hb).cell y2))))))
      have HIW := Lib.hid (fun W (hb : Bel wr W) => HIX.out W ((HB.out.tr HX.out).tr hb))
      generalize x.kind = xk at *
      generalize x.n = xn at *
      have HS3 := Lib.hid (Bel.rfl_ wr)
      have i0 : (0 : Int) ≤ j := by omega
      have i1 : (j : Int) < args.length := by omega
      clear sx sy x0 x1 x2 y0 y1 y2 hca hcb hx HI HA HBB
      go_upto_region 6 with fail
      obtain ⟨-, r2, ⟨x0, x1, x2⟩, y0, y1, y2⟩ := HC.out _ HS3.out
      go_cut [45] from 34 to 44 (fun t wx => t = .bool false ∧ Hid (Bel wr wx))
      case first =>
        clear HB HQ HR HX HIX HRF
        as_aux_lemma =>
          go_region_held3 (fun w' => w'.cell? ⟨w.heap.size, 2, none⟩ = some (.slice (some ⟨b, o, none⟩) args.length c) ∧ w'.cell? ⟨w.heap.size + 1, 2, none⟩ = some (.slice (some ⟨b', o', none⟩) args.length d) ∧ (w'.cell? ⟨b, o + j * 3, none⟩ = some (.int .i64 xk) ∧ w'.cell? ⟨b, o + j * 3 + 1, none⟩ = some (.int .i64 xn) ∧ w'.cell? ⟨b, o + j * 3 + 2, none⟩ = some (.slice X mx cx)) ∧ w'.cell? ⟨b', o' + j * 3, none⟩ = some (.int .i64 xk) ∧ w'.cell? ⟨b', o' + j * 3 + 1, none⟩ = some (.int .i64 xn) ∧ w'.cell? ⟨b', o' + j * 3 + 2, none⟩ = some (.slice Y my cy))
            (first | with_reducible exact HC.out _ HS3.out | exact HC.out _ (by repeat (first | exact Bel.rfl_ _ | exact HS3.out | apply Bel.dr | apply Bel.al)))
            (first
              | (go_at_call 15; (with_reducible refine (HIW.out _ ?_).mono ?_); (repeat (first | exact Bel.rfl_ _ | exact HS3.out | apply Bel.dr)); rintro r w5 ⟨rfl, hb5⟩; have hbw : Bel wr w5 := Bel.tr (by repeat (first | exact Bel.rfl_ _ | exact HS3.out | apply Bel.dr)) hb5; have HS3 := Lib.hid hbw; clear hb5 hbw))
          all_goals go_wp2
          all_goals go_meet
          all_goals exact ⟨rfl, HS3⟩
      case rest =>
      obtain ⟨rfl, hbc⟩ := hcut
      replace HX := Lib.hid (HX.out.tr hbc.out)
      clear hbc HC HIW HIX HS3 r2 x0 x1 x2 y0 y1 y2
      go_wp2
      go_roundw
      case rel => exact ⟨j + 1, by omega, by go_num, HX⟩
      case measure => simp [intOf]; omega
    · obtain rfl : j = args.length := by omega
      have hd : decide ((args.length : Int) < args.length) = false := decide_eq_false (by omega)
      go_wp2
      go_ret
      exact ⟨rfl, HB.out.tr HX.out⟩
theorem sameAsk_any : ∀ (q : Ask) (va vb : Value) (w : World), AskV w q va → AskV w q vb → Calls Tryd.prog 15 #[va, vb] w fun r w' => r = .returned (.bool true) ∧ Bel w w' :=
  Ask.ind fun k n args ih va vb w ha hb => sameAsk_step k n args (fun x hx va vb W h1 h2 => ih x hx va vb W h1 h2) va vb w ha hb

set_option maxRecDepth 20000 in
theorem sameBools_any (l : List Bool) (va vb : Value) (w : World) (ha : Sl boolR w va l) (hb : Sl boolR w vb l) (hl : l.length ≤ 100000) :
    Calls Tryd.prog 18 #[va, vb] w fun r w' => r = .returned (.bool true) ∧ Bel w w' := by
  obtain ⟨A, c, rfl, -, -, hA⟩ := ha
  obtain ⟨B, d, rfl, -, -, hB⟩ := hb
  have HA := Lib.hid hA
  have HBB := Lib.hid hB
  have HRF := Lib.hid (Bel.rfl_ w)
  clear hA hB
  go_enter Tryd.func18, Tryd.ntmps18
  go_wp2
  go_loopw [5] (fun t wr => ∃ j : Nat, j ≤ l.length ∧ t = .int .i64 j ∧ Hid (Bel w wr)) (fun t _ => l.length - (intOf t).toNat)
  case atStart => exact ⟨0, by omega, rfl, HRF⟩
  case round =>
    obtain ⟨j, hj, rfl, HX⟩ := hrel
    by_cases hlt : j < l.length
    · have hd : decide ((j : Int) < l.length) = true := decide_eq_true (by omega)
      obtain ⟨x, hx⟩ : ∃ x, l[j]? = some x := ⟨_, List.getElem?_eq_getElem hlt⟩
      obtain ⟨b, o, rfl, hca⟩ := HA.out (by omega)
      obtain ⟨b', o', rfl, hcb⟩ := HBB.out (by omega)
      have x0 := HX.out.cell (boolR.cell hca hx)
      have y0 := HX.out.cell (boolR.cell hcb hx)
      have i0 : (0 : Int) ≤ j := by omega
      have i1 : (j : Int) < l.length := by omega
      clear hca hcb hx
      go_wp2
      go_quiet (fail)
      go_wp2
      go_roundw
      case rel => exact ⟨j + 1, by omega, by go_num, Lib.hid (HX.out.drN _)⟩
      case measure => simp [intOf]; omega
    · obtain rfl : j = l.length := by omega
      have hd : decide ((l.length : Int) < l.length) = false := decide_eq_false (by omega)
      go_wp2
      go_ret
      exact ⟨rfl, HX.out⟩
end Go.Proofs.YtegknpffiaeohaaDoor
