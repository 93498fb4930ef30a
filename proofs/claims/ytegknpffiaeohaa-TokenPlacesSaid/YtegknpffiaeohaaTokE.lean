/- The program's scanner: a run of signs. Each lemma states its own conditions. -/
import Derived.Test.YtegknpffiaeohaaTokD
namespace Go.Proofs.Ytegknpffiaeohaa
open Go.RowKit

set_option maxRecDepth 20000 in
set_option maxHeartbeats 1000000 in
theorem runLD_any (s : ByteArray) (p g : Nat) (w : World) (hs : s.size ≤ 6000) (hp : p ≤ s.size) (h : Sc w g s p) :
    Calls Try.prog 38 #[.pointer (some ⟨g, 0, none⟩), .func (.func 39) #[] #[]] w fun r w' => r = .returned (.string (s.extract p (runTo isLD s p))) ∧ Sc w' g s (runTo isLD s p) ∧ w.grownBy w' (some g) := by
  have HS := Lib.hid h
  obtain ⟨x0, x1, y1⟩ := h.go
  clear h
  go_enter Try.func38, Try.ntmps38
  go_wp2
  clear x0 x1 y1
  go_loopw [] (fun wr => ∃ q : Nat, p ≤ q ∧ q ≤ s.size ∧ Hid (runTo isLD s p = runTo isLD s q) ∧ Hid (Sc wr g s q) ∧ Hid (w.grownBy wr (some g))) (fun wr => s.size - posOf wr g)
  case atStart => exact ⟨p, by omega, hp, rfl, HS, World.grownBy.refl _ _⟩
  case round =>
    obtain ⟨q, hpq, hq, HK, HR, HG⟩ := hrel
    clear HS
    obtain ⟨x0, x1, y1⟩ := HR.out.go
    have HP := Lib.hid HR.out.pos
    by_cases hlt : q < s.size
    · have hd : decide (q < s.size) = true := decide_eq_true hlt
      obtain ⟨b, hb⟩ : ∃ b, s[q].toNat = b := ⟨_, rfl⟩
      have HB := Lib.hid hb
      have HIT := Lib.hid (fun W => (ld_any b W).mono (R' := fun r w' => r = .returned (.bool (isLD b)) ∧ w' = W) fun _ _ h => ⟨h.1, h.2.symm⟩)
      cases hpb : isLD b with
      | true =>
        rw [hpb] at HIT
        have HN : Hid (runTo isLD s p = runTo isLD s (q + 1)) := Lib.hid (runTo_step HK.out hlt HB.out hpb)
        clear hpb
        go_wp2
        go_quiet ((go_at_call 39; exact Calls.quiet_of_same (HIT.out _)))
        go_wp2
        go_roundw
        case rel => exact ⟨q + 1, by omega, by omega, HN, (HR.out.drN _).at_ (by omega), grownS_set (grownS_drN HG.out _) 1 _⟩
        case measure => rw [((HR.out.drN _).at_ (q := q + 1) (by omega)).pos, HP.out]; omega
      | false =>
        rw [hpb] at HIT
        have HN : Hid (runTo isLD s p = q) := Lib.hid (runTo_done HK.out hlt HB.out hpb)
        clear hpb
        go_wp2
        go_quiet ((go_at_call 39; exact Calls.quiet_of_same (HIT.out _)))
        go_wp2
        go_quiet (fail)
        go_wp2
        go_ret
        exact ⟨by rw [HN.out]; rfl, by rw [HN.out]; exact (HR.out.drN _).drN _, grownS_drN (grownS_drN HG.out _) _⟩
    · have hd : decide (q < s.size) = false := decide_eq_false hlt
      have HN : Hid (runTo isLD s p = q) := Lib.hid (by rw [HK.out, runTo_end hlt])
      go_wp2
      go_quiet (fail)
      go_wp2
      go_quiet (fail)
      go_wp2
      go_ret
      exact ⟨by rw [HN.out]; rfl, by rw [HN.out]; exact (HR.out.drN _).drN _, grownS_drN (grownS_drN HG.out _) _⟩

set_option maxRecDepth 20000 in
set_option maxHeartbeats 1000000 in
theorem runD_any (s : ByteArray) (p g : Nat) (w : World) (hs : s.size ≤ 6000) (hp : p ≤ s.size) (h : Sc w g s p) :
    Calls Try.prog 38 #[.pointer (some ⟨g, 0, none⟩), .func (.func 40) #[] #[]] w fun r w' => r = .returned (.string (s.extract p (runTo isD s p))) ∧ Sc w' g s (runTo isD s p) ∧ w.grownBy w' (some g) := by
  have HS := Lib.hid h
  obtain ⟨x0, x1, y1⟩ := h.go
  clear h
  go_enter Try.func38, Try.ntmps38
  go_wp2
  clear x0 x1 y1
  go_loopw [] (fun wr => ∃ q : Nat, p ≤ q ∧ q ≤ s.size ∧ Hid (runTo isD s p = runTo isD s q) ∧ Hid (Sc wr g s q) ∧ Hid (w.grownBy wr (some g))) (fun wr => s.size - posOf wr g)
  case atStart => exact ⟨p, by omega, hp, rfl, HS, World.grownBy.refl _ _⟩
  case round =>
    obtain ⟨q, hpq, hq, HK, HR, HG⟩ := hrel
    clear HS
    obtain ⟨x0, x1, y1⟩ := HR.out.go
    have HP := Lib.hid HR.out.pos
    by_cases hlt : q < s.size
    · have hd : decide (q < s.size) = true := decide_eq_true hlt
      obtain ⟨b, hb⟩ : ∃ b, s[q].toNat = b := ⟨_, rfl⟩
      have HB := Lib.hid hb
      have HIT := Lib.hid (fun W => (digit_any b W).mono (R' := fun r w' => r = .returned (.bool (isD b)) ∧ w' = W) fun _ _ h => ⟨h.1, h.2.symm⟩)
      cases hpb : isD b with
      | true =>
        rw [hpb] at HIT
        have HN : Hid (runTo isD s p = runTo isD s (q + 1)) := Lib.hid (runTo_step HK.out hlt HB.out hpb)
        clear hpb
        go_wp2
        go_quiet ((go_at_call 40; exact Calls.quiet_of_same (HIT.out _)))
        go_wp2
        go_roundw
        case rel => exact ⟨q + 1, by omega, by omega, HN, (HR.out.drN _).at_ (by omega), grownS_set (grownS_drN HG.out _) 1 _⟩
        case measure => rw [((HR.out.drN _).at_ (q := q + 1) (by omega)).pos, HP.out]; omega
      | false =>
        rw [hpb] at HIT
        have HN : Hid (runTo isD s p = q) := Lib.hid (runTo_done HK.out hlt HB.out hpb)
        clear hpb
        go_wp2
        go_quiet ((go_at_call 40; exact Calls.quiet_of_same (HIT.out _)))
        go_wp2
        go_quiet (fail)
        go_wp2
        go_ret
        exact ⟨by rw [HN.out]; rfl, by rw [HN.out]; exact (HR.out.drN _).drN _, grownS_drN (grownS_drN HG.out _) _⟩
    · have hd : decide (q < s.size) = false := decide_eq_false hlt
      have HN : Hid (runTo isD s p = q) := Lib.hid (by rw [HK.out, runTo_end hlt])
      go_wp2
      go_quiet (fail)
      go_wp2
      go_quiet (fail)
      go_wp2
      go_ret
      exact ⟨by rw [HN.out]; rfl, by rw [HN.out]; exact (HR.out.drN _).drN _, grownS_drN (grownS_drN HG.out _) _⟩

end Go.Proofs.Ytegknpffiaeohaa
