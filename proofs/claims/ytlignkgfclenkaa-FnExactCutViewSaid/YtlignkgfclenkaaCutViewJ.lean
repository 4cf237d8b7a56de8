/-
  The facts on the program that the row of CutView's law asks for. No condition.
-/
import Derived.Test.YtlignkgfclenkaaRows
import Derived.JoinedOf
import Derived.KernelRfl
namespace Go.Proofs.Ytlignkgfclenkaa.fnExactCutView

theorem joined : joinedFacts Try.pinned.checked.prog 4 Try.f4 Rows.fnExactCutViewSpec Rows.fnExactCutViewRow = true := by kernel_rfl

end Go.Proofs.Ytlignkgfclenkaa.fnExactCutView
