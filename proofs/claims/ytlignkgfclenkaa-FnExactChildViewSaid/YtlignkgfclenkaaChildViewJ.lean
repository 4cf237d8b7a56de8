/-
  The facts on the program that the row of ChildView's law asks for. No condition.
-/
import Derived.Test.YtlignkgfclenkaaRows
import Derived.JoinedOf
import Derived.KernelRfl
namespace Go.Proofs.Ytlignkgfclenkaa.fnExactChildView

theorem joined : joinedFacts Try.pinned.checked.prog 3 Try.f3 Rows.fnExactChildViewSpec Rows.fnExactChildViewRow = true := by kernel_rfl

end Go.Proofs.Ytlignkgfclenkaa.fnExactChildView
