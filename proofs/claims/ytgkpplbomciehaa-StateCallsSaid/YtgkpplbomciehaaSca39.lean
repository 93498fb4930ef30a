/- What an expression is worth, by the document: walked. Each lemma states its own conditions. -/
import Derived.Test.YtgkpplbomciehaaSca21
import Derived.Test.YtgkpplbomciehaaSca12
import Derived.Test.YtgkpplbomciehaaSca31
import Derived.BigQuiet
namespace Go.Proofs.Ytgkpplbomciehaa
open Go.RowKit
section
variable {o : Oper} {ρ : Operand → Value} {W : World} {x y : Operand} {b f : Nat} {v : Value} {t2 : TypeId} {k l m : Int}
theorem rb_subI (ho : o.op = .binOp .sub 3 x y t2) (hx : ρ x = .int .i64 k) (hy : ρ y = .int .i64 l) (h0 : -9223372036854775808 ≤ k - l) (h1 : k - l ≤ 9223372036854775807) (hm : k - l = m) : (execOp ρ o).run Try.prog W = .ok (.value (.int .i64 m)) W := by
  subst hm
  have hw : IntKind.i64.wrap (k - l) = k - l := by rw [IntKind.wrap_i64]; omega
  simp [execOp, ho, hx, hy, hw, go_sem]
end
end Go.Proofs.Ytgkpplbomciehaa
