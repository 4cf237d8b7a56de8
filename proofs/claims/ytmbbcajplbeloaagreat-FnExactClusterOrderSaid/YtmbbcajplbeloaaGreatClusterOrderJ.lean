/-
  The facts on the program that the row of ClusterOrder's law asks for. No condition.
-/
import Derived.Test.YtmbbcajplbeloaaGreatRows
import Derived.JoinedOf
import Derived.KernelRfl
namespace Go.Proofs.YtmbbcajplbeloaaGreat.fnExactClusterOrder

theorem joined : joinedFacts Tryz.pinned.checked.prog 3 Tryz.f3 Rows.fnExactClusterOrderSpec Rows.fnExactClusterOrderRow = true := by kernel_rfl

end Go.Proofs.YtmbbcajplbeloaaGreat.fnExactClusterOrder
