/-
  The facts on the program that the row of OrientedLabeling's law asks for. No condition.
-/
import Derived.Test.YtkcbocoimbhhaaaGreatRows
import Derived.JoinedOf
import Derived.KernelRfl
namespace Go.Proofs.YtkcbocoimbhhaaaGreat.fnExactOrientedLabeling

theorem joined : joinedFacts Tryz.pinned.checked.prog 3 Tryz.f3 Rows.fnExactOrientedLabelingSpec Rows.fnExactOrientedLabelingRow = true := by kernel_rfl

end Go.Proofs.YtkcbocoimbhhaaaGreat.fnExactOrientedLabeling
