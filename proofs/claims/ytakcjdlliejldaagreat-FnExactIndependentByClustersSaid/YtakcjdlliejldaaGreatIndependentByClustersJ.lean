/-
  The facts on the program that the row of IndependentByClusters's law asks for. No condition.
-/
import Derived.Test.YtakcjdlliejldaaGreatRows
import Derived.JoinedOf
import Derived.KernelRfl
namespace Go.Proofs.YtakcjdlliejldaaGreat.fnExactIndependentByClusters

theorem joined : joinedFacts Tryz.pinned.checked.prog 3 Tryz.f3 Rows.fnExactIndependentByClustersSpec Rows.fnExactIndependentByClustersRow = true := by kernel_rfl

end Go.Proofs.YtakcjdlliejldaaGreat.fnExactIndependentByClusters
