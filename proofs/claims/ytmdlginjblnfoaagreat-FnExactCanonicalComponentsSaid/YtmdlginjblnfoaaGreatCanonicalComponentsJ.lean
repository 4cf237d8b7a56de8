/-
  The facts on the program that the row of CanonicalComponents's law asks for. No condition.
-/
import Derived.Test.YtmdlginjblnfoaaGreatRows
import Derived.JoinedOf
import Derived.KernelRfl
namespace Go.Proofs.YtmdlginjblnfoaaGreat.fnExactCanonicalComponents

theorem joined : joinedFacts Tryz.pinned.checked.prog 3 Tryz.f3 Rows.fnExactCanonicalComponentsSpec Rows.fnExactCanonicalComponentsRow = true := by kernel_rfl

end Go.Proofs.YtmdlginjblnfoaaGreat.fnExactCanonicalComponents
