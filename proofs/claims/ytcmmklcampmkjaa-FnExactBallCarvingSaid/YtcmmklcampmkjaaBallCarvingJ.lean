/-
  The facts on the program that the row of BallCarving's law asks for. No condition.
-/
import Derived.Test.YtcmmklcampmkjaaRows
import Derived.JoinedOf
import Derived.KernelRfl
namespace Go.Proofs.Ytcmmklcampmkjaa.fnExactBallCarving

theorem joined : joinedFacts Try.pinned.checked.prog 4 Try.f4 Rows.fnExactBallCarvingSpec Rows.fnExactBallCarvingRow = true := by kernel_rfl

end Go.Proofs.Ytcmmklcampmkjaa.fnExactBallCarving
