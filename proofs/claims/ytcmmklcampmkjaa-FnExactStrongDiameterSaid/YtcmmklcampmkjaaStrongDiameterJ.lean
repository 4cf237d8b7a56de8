/-
  The facts on the program that the row of StrongDiameter's law asks for. No condition.
-/
import Derived.Test.YtcmmklcampmkjaaRows
import Derived.JoinedOf
import Derived.KernelRfl
namespace Go.Proofs.Ytcmmklcampmkjaa.fnExactStrongDiameter

theorem joined : joinedFacts Try.pinned.checked.prog 3 Try.f3 Rows.fnExactStrongDiameterSpec Rows.fnExactStrongDiameterRow = true := by kernel_rfl

end Go.Proofs.Ytcmmklcampmkjaa.fnExactStrongDiameter
