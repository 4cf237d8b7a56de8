/-
  The facts on the program that the row of CanonicalOrder's law asks for. No condition.
-/
import Derived.Test.YtmdlginjblnfoaaRows
import Derived.JoinedOf
import Derived.KernelRfl
namespace Go.Proofs.Ytmdlginjblnfoaa.fnExactCanonicalOrder

theorem joined : joinedFacts Try.pinned.checked.prog 3 Try.f3 Rows.fnExactCanonicalOrderSpec Rows.fnExactCanonicalOrderRow = true := by kernel_rfl

end Go.Proofs.Ytmdlginjblnfoaa.fnExactCanonicalOrder
