/- The document's 'between'. No conditions. -/
import Derived.Test.YtegknpffiaeohaaBase
import Derived.Test.YtegknpffiaeohaaChecked
namespace Go.Proofs.Ytegknpffiaeohaa
open Go.RowKit

theorem between_any (n a b : Int) (w : World) : Calls Try.prog 51 #[.int .i64 n, .int .i64 a, .int .i64 b] w fun r w' => r = .returned (.bool (decide (a ≤ n ∧ n ≤ b))) ∧ w = w' := by
  go_enter Try.func51, Try.ntmps51
  go_wp2
  all_goals go_ret
  all_goals refine ⟨ret_bool ?_, rfl⟩
  all_goals simp_all
  all_goals omega

end Go.Proofs.Ytegknpffiaeohaa
