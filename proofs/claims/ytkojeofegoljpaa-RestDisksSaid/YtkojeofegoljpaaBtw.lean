/- The document's 'between'. No conditions. -/
import Derived.Test.YtkojeofegoljpaaBase
import Derived.Test.YtkojeofegoljpaaChecked
namespace Go.Proofs.Ytkojeofegoljpaa
open Go.RowKit

theorem between_any (n a b : Int) (w : World) : Calls Try.prog 43 #[.int .i64 n, .int .i64 a, .int .i64 b] w fun r w' => r = .returned (.bool (decide (a ≤ n ∧ n ≤ b))) ∧ w = w' := by
  go_enter Try.func43, Try.ntmps43
  go_wp2
  all_goals go_ret
  all_goals refine ⟨ret_bool ?_, rfl⟩
  all_goals simp_all
  all_goals omega

end Go.Proofs.Ytkojeofegoljpaa
