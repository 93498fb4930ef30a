/- Contracts of small functions that look at events: what an event is about, whether it fits, whether two lists are one. -/
import Derived.Test.YtdfbhlehfbckjaaBase
import Derived.Test.YtdfbhlehfbckjaaRows
import Derived.Outline
import Derived.Deep.QuietTactic
import Derived.BigQuiet
import Derived.Laws.StructEq
import Derived.WalkLawsBesides
import Derived.WalkSpells
namespace Go.Proofs.Ytdfbhlehfbckjaa
open Go.RowKit

def about (e : Ev) : Int := if e.kind = 1 then e.at_ else if e.kind = 2 ∨ e.kind = 5 then e.var else e.value
def fits (e : Ev) (kind n : Int) : Bool := e.kind == kind && (n == -1 || n == about e)
def findErr (len : Nat) (kind : Int) : Int := if 4000 < len then 2 else if 1 ≤ kind ∧ kind ≤ 7 then 0 else 7

theorem aboutOf_any (e : Ev) (w : World) :
    Calls Try.prog 44 #[e.val] w fun r w' => r = .returned (.int .i64 (about e)) ∧ Bel w w' := by
  unfold Ev.val
  go_enter Try.func44, Try.ntmps44
  go_wp2
  all_goals go_ret
  all_goals refine ⟨?_, by repeat (first | exact Bel.rfl_ _ | apply Bel.al | apply Bel.dr)⟩
  all_goals simp_all [about]

theorem about_any (e : Ev) (w : World) :
    Calls Try.prog 42 #[e.val] w fun r w' => r = .returned (.int .i64 (about e)) ∧ Bel w w' := by
  unfold Ev.val
  go_enter Try.func42, Try.ntmps42
  go_wp2
  all_goals go_ret
  all_goals refine ⟨?_, by repeat (first | exact Bel.rfl_ _ | apply Bel.al | apply Bel.dr)⟩
  all_goals simp_all [about]

theorem between_any (n a b : Int) (w : World) :
    Calls Try.prog 26 #[.int .i64 n, .int .i64 a, .int .i64 b] w fun r w' => r = .returned (.bool (decide (a ≤ n ∧ n ≤ b))) ∧ w = w' := by
  go_enter Try.func26, Try.ntmps26
  go_wp2
  all_goals go_ret
  all_goals refine ⟨ret_bool ?_, rfl⟩
  all_goals simp_all
  all_goals omega

theorem checkFind_any (v : Value) (l : List Ev) (kind : Int) (w : World) (h : Sl evR w v l) (hl : ok64 l.length) :
    Calls Try.prog 10 #[v, .int .i64 kind] w fun r w' => r = .returned (.int .i64 (findErr l.length kind)) ∧ w = w' := by
  obtain ⟨A, c, rfl, hc, hm, hA⟩ := h
  unfold ok64 at hl
  clear hA
  go_enter Try.func10, Try.ntmps10
  go_wp2_with (go_at_call 26; refine (between_any _ _ _ _).mono ?_; rintro e w' ⟨rfl, rfl⟩)
  all_goals go_ret
  all_goals refine ⟨ret_int ?_, rfl⟩
  all_goals simp_all [findErr]
  all_goals omega

theorem ready_any (v : Value) (l : List Ev) (kind : Int) (w : World) (h : Sl evR w v l) (hl : ok64 l.length) :
    Calls Try.prog 22 #[v, .int .i64 kind] w fun r w' => r = .returned (.int .i64 (findErr l.length kind)) ∧ w = w' := by
  obtain ⟨A, c, rfl, hc, hm, hA⟩ := h
  unfold ok64 at hl
  clear hA
  go_enter Try.func22, Try.ntmps22
  go_wp2
  all_goals go_ret
  all_goals refine ⟨ret_int ?_, rfl⟩
  all_goals simp_all [findErr]
  all_goals omega

theorem fits_any (e : Ev) (kind n : Int) (w : World) :
    Calls Try.prog 27 #[e.val, .int .i64 kind, .int .i64 n] w fun r w' => r = .returned (.bool (fits e kind n)) ∧ Bel w w' := by
  have hab := Lib.hid (aboutOf_any e)
  unfold Ev.val at *
  have HF : fits e kind n = (e.kind == kind && (n == -1 || n == about e)) := rfl
  cases b1 : e.kind == kind <;> cases b2 : n == -1
  all_goals
    rw [b1, b2] at HF
    have HF' := Lib.hid HF
    clear HF
    go_enter Try.func27, Try.ntmps27
    go_wp2_with (go_at_call 44; refine (hab.out _).mono ?_; rintro e w' ⟨rfl, hb⟩)
    go_ret
    refine ⟨ret_bool ?_, ?_⟩
    · rw [HF'.out]; simp
    · first | exact (Bel.rfl_ w).al _ | exact ((Bel.rfl_ w).al _).tr hb

end Go.Proofs.Ytdfbhlehfbckjaa
