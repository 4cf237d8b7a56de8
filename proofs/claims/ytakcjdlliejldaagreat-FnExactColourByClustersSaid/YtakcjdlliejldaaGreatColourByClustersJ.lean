/-
  The facts on the program that the row of ColourByClusters's law asks for. No condition.
-/
import Derived.Test.YtakcjdlliejldaaGreatRows
import Derived.JoinedOf
import Derived.KernelRfl
namespace Go.Proofs.YtakcjdlliejldaaGreat.fnExactColourByClusters

theorem joined : joinedFacts Tryz.pinned.checked.prog 4 Tryz.f4 Rows.fnExactColourByClustersSpec Rows.fnExactColourByClustersRow = true := by kernel_rfl

end Go.Proofs.YtakcjdlliejldaaGreat.fnExactColourByClusters
