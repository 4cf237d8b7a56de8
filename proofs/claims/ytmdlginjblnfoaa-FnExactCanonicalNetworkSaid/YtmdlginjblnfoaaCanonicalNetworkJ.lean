/-
  The facts on the program that the row of CanonicalNetwork's law asks for. No condition.
-/
import Derived.Test.YtmdlginjblnfoaaRows
import Derived.JoinedOf
import Derived.KernelRfl
namespace Go.Proofs.Ytmdlginjblnfoaa.fnExactCanonicalNetwork

theorem joined : joinedFacts Try.pinned.checked.prog 4 Try.f4 Rows.fnExactCanonicalNetworkSpec Rows.fnExactCanonicalNetworkRow = true := by kernel_rfl

end Go.Proofs.Ytmdlginjblnfoaa.fnExactCanonicalNetwork
