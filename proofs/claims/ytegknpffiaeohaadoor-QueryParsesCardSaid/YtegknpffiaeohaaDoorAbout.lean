/- The document's 'between'. No conditions. Contracts of small functions that look at events: what an event is about, whether it fits. No conditions. Each lemma states its own conditions. -/
import Derived.Test.YtegknpffiaeohaaDoorBase
import Derived.Test.YtegknpffiaeohaaDoorChecked
import Derived.Test.YtegknpffiaeohaaDoorRows
import Derived.Outline
import Derived.Deep.QuietTactic
import Derived.BigQuiet
import Derived.Laws.StructEq
import Derived.WalkLawsBesides
import Derived.WalkSpells
namespace Go.Proofs.YtegknpffiaeohaaDoor
open Go.RowKit

theorem between_any (n a b : Int) (w : World) : Calls Tryd.prog 40 #[.int .i64 n, .int .i64 a, .int .i64 b] w fun r w' => r = .returned (.bool (decide (a ≤ n ∧ n ≤ b))) ∧ w = w' := by
  go_enter Tryd.func40, Tryd.ntmps40
  go_wp2
  all_goals go_ret
  all_goals refine ⟨ret_bool ?_, rfl⟩
  all_goals simp_all
  all_goals omega

end Go.Proofs.YtegknpffiaeohaaDoor

namespace Go.Proofs.YtegknpffiaeohaaDoor
open Go.RowKit

def about (e : Ev) : Int := if e.kind = 1 then e.at_ else if e.kind = 2 ∨ e.kind = 5 then e.var else e.value
def fits (e : Ev) (kind n : Int) : Bool := e.kind == kind && (n == -1 || n == about e)
theorem aboutOf_any (e : Ev) (w : World) :
    Calls Tryd.prog 81 #[e.val] w fun r w' => r = .returned (.int .i64 (about e)) ∧ Bel w w' := by
  unfold Ev.val
  go_enter Tryd.func81, Tryd.ntmps81
  go_wp2
  all_goals go_ret
  all_goals refine ⟨?_, by repeat (first | exact Bel.rfl_ _ | apply Bel.al | apply Bel.dr)⟩
  all_goals simp_all [about]

theorem about_any (e : Ev) (w : World) :
    Calls Tryd.prog 80 #[e.val] w fun r w' => r = .returned (.int .i64 (about e)) ∧ Bel w w' := by
  unfold Ev.val
  go_enter Tryd.func80, Tryd.ntmps80
  go_wp2
  all_goals go_ret
  all_goals refine ⟨?_, by repeat (first | exact Bel.rfl_ _ | apply Bel.al | apply Bel.dr)⟩
  all_goals simp_all [about]
theorem fits_any (e : Ev) (kind n : Int) (w : World) :
    Calls Tryd.prog 63 #[e.val, .int .i64 kind, .int .i64 n] w fun r w' => r = .returned (.bool (fits e kind n)) ∧ Bel w w' := by
  have hab := Lib.hid (aboutOf_any e)
  unfold Ev.val at *
  have HF : fits e kind n = (e.kind == kind && (n == -1 || n == about e)) := rfl
  cases b1 : e.kind == kind <;> cases b2 : n == -1
  all_goals
    rw [b1, b2] at HF
    have HF' := Lib.hid HF
    clear HF
    go_enter Tryd.func63, Tryd.ntmps63
    go_wp2_with (go_at_call 81; refine (hab.out _).mono ?_; rintro e w' ⟨rfl, hb⟩)
    go_ret
    refine ⟨ret_bool ?_, ?_⟩
    · rw [HF'.out]; simp
    · first | exact (Bel.rfl_ w).al _ | exact ((Bel.rfl_ w).al _).tr hb

end Go.Proofs.YtegknpffiaeohaaDoor
