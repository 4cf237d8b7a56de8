/-
  The facts on the program that the row of IsTable's law asks for. No condition.
-/
import Derived.Test.YtlignkgfclenkaaRows
import Derived.JoinedOf
import Derived.KernelRfl
namespace Go.Proofs.Ytlignkgfclenkaa.fnExactIsTable

theorem joined : joinedFacts Try.pinned.checked.prog 5 Try.f5 Rows.fnExactIsTableSpec Rows.fnExactIsTableRow = true := by kernel_rfl

end Go.Proofs.Ytlignkgfclenkaa.fnExactIsTable
