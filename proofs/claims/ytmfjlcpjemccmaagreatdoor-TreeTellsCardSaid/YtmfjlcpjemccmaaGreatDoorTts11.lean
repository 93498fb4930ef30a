/- The program's scanner: what it skips, what it runs over. The program's scanner: a run of signs. Each lemma states its own conditions. -/
import Derived.Test.YtmfjlcpjemccmaaGreatDoorTts05
import Derived.Test.YtmfjlcpjemccmaaGreatDoorTts06
namespace Go.Proofs.YtmfjlcpjemccmaaGreatDoor
open Go.RowKit
def Sc (w : World) (g : Nat) (s : ByteArray) (p : Nat) : Prop := Blk w g 99 #[.string s, .int .i64 p]
theorem Sc.go {w : World} {g : Nat} {s : ByteArray} {p : Nat} (h : Sc w g s p) : w.cell? ⟨g, 0, none⟩ = some (.string s) ∧ w.cell? ⟨g, 1, none⟩ = some (.int .i64 p) ∧ w.frozen? ⟨g, 1, none⟩ = false := ⟨h.cell rfl, h.cell rfl, h.frozen 1⟩
theorem Sc.at_ {w : World} {g : Nat} {s : ByteArray} {p q : Nat} {x : Int} (h : Sc w g s p) (hq : x = q) : Sc (w.setCell ⟨g, 1, none⟩ (.int .i64 x)) g s q := by
 have := h.set_ 1 (.int .i64 x)
 rw [hq] at this ⊢
 exact this
theorem Sc.drN {w : World} {g : Nat} {s : ByteArray} {p : Nat} (h : Sc w g s p) (n : Nat) : Sc (w.drewN n) g s p := Blk.keep h ((Bel.rfl_ w).drN n)
theorem Sc.keep {w w' : World} {g : Nat} {s : ByteArray} {p : Nat} (hb : Bel w w') (h : Sc w g s p) : Sc w' g s p := Blk.keep h hb
/-- where a scanner stands -/
def posOf (w : World) (g : Nat) : Nat := match w.cell? ⟨g, 1, none⟩ with
 | some v => (intOf v).toNat
 | none => 0
theorem Sc.pos {w : World} {g : Nat} {s : ByteArray} {p : Nat} (h : Sc w g s p) : posOf w g = p := by
 unfold posOf
 rw [h.go.2.1]
 simp [intOf]
theorem sign_any (s : ByteArray) (p g : Nat) (w : World) (_hs : s.size ≤ 6000) (hp : p < s.size) (h : Sc w g s p) :
  Calls Tryz.prog 108 #[.pointer (some ⟨g, 0, none⟩)] w fun r w' => r = .returned (.int .u8 s[p].toNat) ∧ ∃ n, w' = w.drewN n := by
 obtain ⟨x0, x1, y1⟩ := h.go
 clear h
 have hd : decide (p < s.size) = true := decide_eq_true hp
 go_enter Tryz.func108, Tryz.ntmps108
 go_wp2
 go_quiet (fail)
 go_wp2
 go_quiet (fail)
 go_wp2
 go_ret
 exact ⟨rfl, _, World.drewN_drewN _ _ _⟩
theorem skip_hash {s : ByteArray} {q : Nat} (hq : q < s.size) (h : s[q].toNat = 35) : skipN s q true = skipN s q false := by
 rw [skipN_note hq (by simp), skipN_note hq (by simp [h])]
theorem skip_on {s : ByteArray} {q : Nat} (hq : q < s.size) (h : s[q].toNat ≠ 10) : skipN s q true = skipN s (q + 1) true := by
 rw [skipN_note hq (by simp)]
 have : (s[q].toNat != 10) = true := by simpa using h
 rw [this]
set_option maxRecDepth 20000 in
set_option maxHeartbeats 1000000 in
theorem skip_any (s : ByteArray) (p g : Nat) (w : World) (hs : s.size ≤ 6000) (hp : p ≤ s.size) (h : Sc w g s p) :
  Calls Tryz.prog 61 #[.pointer (some ⟨g, 0, none⟩)] w fun r w' => r = .returned (.tuple #[]) ∧ Sc w' g s (skipN s p false) ∧ w.grownBy w' (some g) := by
 have HS := Hi_ h
 clear h
 go_enter Tryz.func61, Tryz.ntmps61
 go_wp2
 go_loopw [] (fun wr => ∃ q : Nat, q ≤ s.size ∧ Hid (skipN s q false = skipN s p false) ∧ Hid (Sc wr g s q) ∧ Hid (w.grownBy wr (some g))) (fun wr => s.size - posOf wr g)
 case atStart => exact ⟨p, hp, rfl, HS, World.grownBy.refl _ _⟩
 case round =>
  obtain ⟨q, hq, HK, HR, HG⟩ := hrel
  clear HS
  obtain ⟨x0, x1, y1⟩ := HR.out.go
  have HP := Hi_ HR.out.pos
  by_cases hlt : q < s.size
  ·have hd : decide (q < s.size) = true := decide_eq_true hlt
   by_cases hbl : isBl s[q].toNat = true
   ·by_cases h35 : s[q].toNat = 35
    ·rw [h35] at hbl; exact absurd hbl (by decide)
    ·have HN : Hid (skipN s (q + 1) false = skipN s p false) := Hi_ (by rw [← HK.out, skipN_bl hlt (by simp [h35]) hbl])
     unfold isBl at hbl
     by_cases h32 : s[q].toNat = 32
     ·have e1 : ((s[q].toNat : Int) == 32) = true := by simp; omega
      clear hbl h32 h35
      go_wp2
      go_quiet (fail)
      go_wp2
      go_quiet (fail)
      go_wp2
      go_roundw
      case rel => exact ⟨q + 1, by omega, HN, (HR.out.drN _).at_ (by omega), grownS_set (grownS_drN HG.out _) 1 _⟩
      case measure => rw [((HR.out.drN _).at_ (q := q + 1) (by omega)).pos, HP.out]; omega
     ·have e1 : ((s[q].toNat : Int) == 32) = false := by simp; omega
      by_cases h9 : s[q].toNat = 9
      ·have e2 : ((s[q].toNat : Int) == 9) = true := by simp; omega
       clear hbl h32 h35 h9
       go_wp2
       go_quiet (fail)
       go_wp2
       go_quiet (fail)
       go_wp2
       go_roundw
       case rel => exact ⟨q + 1, by omega, HN, (HR.out.drN _).at_ (by omega), grownS_set (grownS_drN HG.out _) 1 _⟩
       case measure => rw [((HR.out.drN _).at_ (q := q + 1) (by omega)).pos, HP.out]; omega
      ·have e2 : ((s[q].toNat : Int) == 9) = false := by simp; omega
       have e3 : ((s[q].toNat : Int) == 10) = true := by simp [h32, h9] at hbl; simp; omega
       clear hbl h32 h35 h9
       go_wp2
       go_quiet (fail)
       go_wp2
       go_quiet (fail)
       go_wp2
       go_roundw
       case rel => exact ⟨q + 1, by omega, HN, (HR.out.drN _).at_ (by omega), grownS_set (grownS_drN HG.out _) 1 _⟩
       case measure => rw [((HR.out.drN _).at_ (q := q + 1) (by omega)).pos, HP.out]; omega
   ·have hbf : isBl s[q].toNat = false := by simpa using hbl
    have HBL := Hi_ hbf
    unfold isBl at hbf
    have e1 : ((s[q].toNat : Int) == 32) = false := by simp at hbf; simp; omega
    have e2 : ((s[q].toNat : Int) == 9) = false := by simp at hbf; simp; omega
    have e3 : ((s[q].toNat : Int) == 10) = false := by simp at hbf; simp; omega
    clear hbl hbf
    by_cases h35 : s[q].toNat = 35
    ·have e4 : ((s[q].toNat : Int) == 35) = true := by simp; omega
     have HH : Hid (skipN s q true = skipN s p false) := Hi_ (by rw [skip_hash hlt h35]; exact HK.out)
     have H35 := Hi_ h35
     clear h35
     go_wp2
     go_quiet (fail)
     go_wp2
     go_quiet (fail)
     go_wp2
     clear x0 x1 y1
     go_loopw [] (fun wr => ∃ r : Nat, q ≤ r ∧ r ≤ s.size ∧ Hid (skipN s r true = skipN s p false) ∧ Hid (Sc wr g s r) ∧ Hid (w.grownBy wr (some g))) (fun wr => s.size - posOf wr g)
     case atStart => exact ⟨q, by omega, by omega, HH, HR.out.drN _, grownS_drN HG.out _⟩
     case round =>
      clear HR HG HH HK e1 e2 e3 e4
      obtain ⟨r, hr1, hr2, HK2, HR, HG⟩ := hrel
      obtain ⟨x0, x1, y1⟩ := HR.out.go
      have HP2 := Hi_ HR.out.pos
      by_cases hrl : r < s.size
      ·have hd2 : decide (r < s.size) = true := decide_eq_true hrl
       by_cases h10 : s[r].toNat = 10
       ·have e5 : ((s[r].toNat : Int) != 10) = false := by simp; omega
        have hqr : q < r := by
         rcases Nat.eq_or_lt_of_le hr1 with h | h
         ·subst h; have := H35.out; omega
         ·exact h
        have HN : Hid (skipN s r false = skipN s p false) := Hi_ (by rw [← skipN_nl (fun h => by rw [getElem!_pos s r h]; exact h10)]; exact HK2.out)
        clear h10
        go_wp2
        go_quiet (fail)
        go_wp2
        go_roundw
        case rel => exact ⟨r, hr2, HN, HR.out.drN _, grownS_drN HG.out _⟩
        case measure => rw [(HR.out.drN _).pos, HP.out]; omega
       ·have e5 : ((s[r].toNat : Int) != 10) = true := by simp; omega
        have HN : Hid (skipN s (r + 1) true = skipN s p false) := Hi_ (by rw [← skip_on hrl h10]; exact HK2.out)
        clear h10
        go_wp2
        go_quiet (fail)
        go_wp2
        go_roundw
        case rel => exact ⟨r + 1, by omega, by omega, HN, (HR.out.drN _).at_ (by omega), grownS_set (grownS_drN HG.out _) 1 _⟩
        case measure => rw [((HR.out.drN _).at_ (q := r + 1) (by omega)).pos, HP2.out]; omega
      ·have hd2 : decide (r < s.size) = false := decide_eq_false hrl
       have HN : Hid (skipN s r false = skipN s p false) := Hi_ (by rw [← skipN_nl (fun h => absurd h hrl)]; exact HK2.out)
       go_wp2
       go_quiet (fail)
       go_wp2
       go_roundw
       case rel => exact ⟨r, hr2, HN, HR.out.drN _, grownS_drN HG.out _⟩
       case measure => rw [(HR.out.drN _).pos, HP.out]; omega
    ·have e4 : ((s[q].toNat : Int) == 35) = false := by simp; omega
     have HN : Hid (skipN s p false = q) := Hi_ (by rw [← HK.out, skipN_stop hlt (by simp [h35]) HBL.out])
     clear h35
     go_wp2
     go_quiet (fail)
     go_wp2
     go_quiet (fail)
     go_wp2
     (try simp only [Exit.inBlock, Exit.then])
     refine bodyPost_ret (results_none rfl _ _ _) rfl ?_
     exact ⟨rfl, by rw [HN.out]; exact HR.out.drN _, grownS_drN HG.out _⟩
  ·have hd : decide (q < s.size) = false := decide_eq_false hlt
   have HN : Hid (skipN s p false = q) := Hi_ (by rw [← HK.out, skipN_end hlt])
   go_wp2
   go_quiet (fail)
   go_wp2
   go_end0
   exact ⟨rfl, by rw [HN.out]; exact HR.out.drN _, grownS_drN HG.out _⟩
set_option maxRecDepth 20000 in
set_option maxHeartbeats 1000000 in
theorem runLD_any (s : ByteArray) (p g : Nat) (w : World) (hs : s.size ≤ 6000) (hp : p ≤ s.size) (h : Sc w g s p) :
  Calls Tryz.prog 110 #[.pointer (some ⟨g, 0, none⟩), .func (.func 111) #[] #[]] w fun r w' => r = .returned (.string (s.extract p (runTo isLD s p))) ∧ Sc w' g s (runTo isLD s p) ∧ w.grownBy w' (some g) := by
 have HS := Hi_ h
 obtain ⟨x0, x1, y1⟩ := h.go
 clear h
 go_enter Tryz.func110, Tryz.ntmps110
 go_wp2
 clear x0 x1 y1
 go_loopw [] (fun wr => ∃ q : Nat, p ≤ q ∧ q ≤ s.size ∧ Hid (runTo isLD s p = runTo isLD s q) ∧ Hid (Sc wr g s q) ∧ Hid (w.grownBy wr (some g))) (fun wr => s.size - posOf wr g)
 case atStart => exact ⟨p, by omega, hp, rfl, HS, World.grownBy.refl _ _⟩
 case round =>
  obtain ⟨q, hpq, hq, HK, HR, HG⟩ := hrel
  clear HS
  obtain ⟨x0, x1, y1⟩ := HR.out.go
  have HP := Hi_ HR.out.pos
  by_cases hlt : q < s.size
  ·have hd : decide (q < s.size) = true := decide_eq_true hlt
   obtain ⟨b, hb⟩ : ∃ b, s[q].toNat = b := ⟨_, rfl⟩
   have HB := Hi_ hb
   have HIT := Hi_ (fun W => (ld_any b W).mono (R' := fun r w' => r = .returned (.bool (isLD b)) ∧ w' = W) fun _ _ h => ⟨h.1, h.2.symm⟩)
   cases hpb : isLD b with
   | true =>
    rw [hpb] at HIT
    have HN : Hid (runTo isLD s p = runTo isLD s (q + 1)) := Hi_ (runTo_step HK.out hlt HB.out hpb)
    clear hpb
    go_wp2
    go_quiet ((go_at_call 111; exact Calls.quiet_of_same (HIT.out _)))
    go_wp2
    go_roundw
    case rel => exact ⟨q + 1, by omega, by omega, HN, (HR.out.drN _).at_ (by omega), grownS_set (grownS_drN HG.out _) 1 _⟩
    case measure => rw [((HR.out.drN _).at_ (q := q + 1) (by omega)).pos, HP.out]; omega
   | false =>
    rw [hpb] at HIT
    have HN : Hid (runTo isLD s p = q) := Hi_ (runTo_done HK.out hlt HB.out hpb)
    clear hpb
    go_wp2
    go_quiet ((go_at_call 111; exact Calls.quiet_of_same (HIT.out _)))
    go_wp2
    go_quiet (fail)
    go_wp2
    go_ret
    exact ⟨by rw [HN.out]; rfl, by rw [HN.out]; exact (HR.out.drN _).drN _, grownS_drN (grownS_drN HG.out _) _⟩
  ·have hd : decide (q < s.size) = false := decide_eq_false hlt
   have HN : Hid (runTo isLD s p = q) := Hi_ (by rw [HK.out, runTo_end hlt])
   go_wp2
   go_quiet (fail)
   go_wp2
   go_quiet (fail)
   go_wp2
   go_ret
   exact ⟨by rw [HN.out]; rfl, by rw [HN.out]; exact (HR.out.drN _).drN _, grownS_drN (grownS_drN HG.out _) _⟩
set_option maxRecDepth 20000 in
set_option maxHeartbeats 1000000 in
theorem runD_any (s : ByteArray) (p g : Nat) (w : World) (hs : s.size ≤ 6000) (hp : p ≤ s.size) (h : Sc w g s p) :
  Calls Tryz.prog 110 #[.pointer (some ⟨g, 0, none⟩), .func (.func 112) #[] #[]] w fun r w' => r = .returned (.string (s.extract p (runTo isD s p))) ∧ Sc w' g s (runTo isD s p) ∧ w.grownBy w' (some g) := by
 have HS := Hi_ h
 obtain ⟨x0, x1, y1⟩ := h.go
 clear h
 go_enter Tryz.func110, Tryz.ntmps110
 go_wp2
 clear x0 x1 y1
 go_loopw [] (fun wr => ∃ q : Nat, p ≤ q ∧ q ≤ s.size ∧ Hid (runTo isD s p = runTo isD s q) ∧ Hid (Sc wr g s q) ∧ Hid (w.grownBy wr (some g))) (fun wr => s.size - posOf wr g)
 case atStart => exact ⟨p, by omega, hp, rfl, HS, World.grownBy.refl _ _⟩
 case round =>
  obtain ⟨q, hpq, hq, HK, HR, HG⟩ := hrel
  clear HS
  obtain ⟨x0, x1, y1⟩ := HR.out.go
  have HP := Hi_ HR.out.pos
  by_cases hlt : q < s.size
  ·have hd : decide (q < s.size) = true := decide_eq_true hlt
   obtain ⟨b, hb⟩ : ∃ b, s[q].toNat = b := ⟨_, rfl⟩
   have HB := Hi_ hb
   have HIT := Hi_ (fun W => (digit_any b W).mono (R' := fun r w' => r = .returned (.bool (isD b)) ∧ w' = W) fun _ _ h => ⟨h.1, h.2.symm⟩)
   cases hpb : isD b with
   | true =>
    rw [hpb] at HIT
    have HN : Hid (runTo isD s p = runTo isD s (q + 1)) := Hi_ (runTo_step HK.out hlt HB.out hpb)
    clear hpb
    go_wp2
    go_quiet ((go_at_call 112; exact Calls.quiet_of_same (HIT.out _)))
    go_wp2
    go_roundw
    case rel => exact ⟨q + 1, by omega, by omega, HN, (HR.out.drN _).at_ (by omega), grownS_set (grownS_drN HG.out _) 1 _⟩
    case measure => rw [((HR.out.drN _).at_ (q := q + 1) (by omega)).pos, HP.out]; omega
   | false =>
    rw [hpb] at HIT
    have HN : Hid (runTo isD s p = q) := Hi_ (runTo_done HK.out hlt HB.out hpb)
    clear hpb
    go_wp2
    go_quiet ((go_at_call 112; exact Calls.quiet_of_same (HIT.out _)))
    go_wp2
    go_quiet (fail)
    go_wp2
    go_ret
    exact ⟨by rw [HN.out]; rfl, by rw [HN.out]; exact (HR.out.drN _).drN _, grownS_drN (grownS_drN HG.out _) _⟩
  ·have hd : decide (q < s.size) = false := decide_eq_false hlt
   have HN : Hid (runTo isD s p = q) := Hi_ (by rw [HK.out, runTo_end hlt])
   go_wp2
   go_quiet (fail)
   go_wp2
   go_quiet (fail)
   go_wp2
   go_ret
   exact ⟨by rw [HN.out]; rfl, by rw [HN.out]; exact (HR.out.drN _).drN _, grownS_drN (grownS_drN HG.out _) _⟩
end Go.Proofs.YtmfjlcpjemccmaaGreatDoor
