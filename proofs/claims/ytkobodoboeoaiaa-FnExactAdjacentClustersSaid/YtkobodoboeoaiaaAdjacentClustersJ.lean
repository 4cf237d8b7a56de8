/-
  The facts on the program that the row of AdjacentClusters's law asks for. No condition.
-/
import Derived.Test.YtkobodoboeoaiaaRows
import Derived.JoinedOf
import Derived.KernelRfl
namespace Go.Proofs.Ytkobodoboeoaiaa.fnExactAdjacentClusters

theorem joined : joinedFacts Try.pinned.checked.prog 3 Try.f3 Rows.fnExactAdjacentClustersSpec Rows.fnExactAdjacentClustersRow = true := by kernel_rfl

end Go.Proofs.Ytkobodoboeoaiaa.fnExactAdjacentClusters
