/- The document's 'between'. No conditions. -/
import Derived.Test.YtegknpffiaeohaaDoorBase
import Derived.Test.YtegknpffiaeohaaDoorChecked
namespace Go.Proofs.YtegknpffiaeohaaDoor
open Go.RowKit

theorem between_any (n a b : Int) (w : World) : Calls Tryd.prog 40 #[.int .i64 n, .int .i64 a, .int .i64 b] w fun r w' => r = .returned (.bool (decide (a ≤ n ∧ n ≤ b))) ∧ w = w' := by
  go_enter Tryd.func40, Tryd.ntmps40
  go_wp2
  all_goals go_ret
  all_goals refine ⟨ret_bool ?_, rfl⟩
  all_goals simp_all
  all_goals omega

end Go.Proofs.YtegknpffiaeohaaDoor
