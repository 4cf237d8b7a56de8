/-
  The facts on the program that the row of ColourClusters's law asks for. No condition.
-/
import Derived.Test.YtkobodoboeoaiaaRows
import Derived.JoinedOf
import Derived.KernelRfl
namespace Go.Proofs.Ytkobodoboeoaiaa.fnExactColourClusters

theorem joined : joinedFacts Try.pinned.checked.prog 4 Try.f4 Rows.fnExactColourClustersSpec Rows.fnExactColourClustersRow = true := by kernel_rfl

end Go.Proofs.Ytkobodoboeoaiaa.fnExactColourClusters
