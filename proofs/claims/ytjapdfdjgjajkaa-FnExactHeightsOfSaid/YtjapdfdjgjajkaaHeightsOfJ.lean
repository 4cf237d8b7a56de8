/-
  The facts on the program that the row of HeightsOf's law asks for. No condition.
-/
import Derived.Test.YtjapdfdjgjajkaaRows
import Derived.JoinedOf
import Derived.KernelRfl
namespace Go.Proofs.Ytjapdfdjgjajkaa.fnExactHeightsOf

theorem joined : joinedFacts Try.pinned.checked.prog 5 Try.f5 Rows.fnExactHeightsOfSpec Rows.fnExactHeightsOfRow = true := by kernel_rfl

end Go.Proofs.Ytjapdfdjgjajkaa.fnExactHeightsOf
