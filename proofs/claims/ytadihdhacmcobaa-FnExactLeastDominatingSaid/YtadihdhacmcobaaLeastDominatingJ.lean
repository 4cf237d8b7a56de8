/-
  The facts on the program that the row of LeastDominating's law asks for. No condition.
-/
import Derived.Test.YtadihdhacmcobaaRows
import Derived.JoinedOf
import Derived.KernelRfl
namespace Go.Proofs.Ytadihdhacmcobaa.fnExactLeastDominating

theorem joined : joinedFacts Try.pinned.checked.prog 3 Try.f3 Rows.fnExactLeastDominatingSpec Rows.fnExactLeastDominatingRow = true := by kernel_rfl

end Go.Proofs.Ytadihdhacmcobaa.fnExactLeastDominating
