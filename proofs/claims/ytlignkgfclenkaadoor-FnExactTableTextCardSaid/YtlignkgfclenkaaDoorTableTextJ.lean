/-
  The facts on the program that the row of TableText's law asks for. No condition.
-/
import Derived.Test.YtlignkgfclenkaaDoorRows
import Derived.JoinedOf
import Derived.KernelRfl
namespace Go.Proofs.YtlignkgfclenkaaDoor.fnExactTableText

theorem joined : joinedFacts Tryd.pinned.checked.prog 3 Tryd.f3 Rows.fnExactTableTextSpec Rows.fnExactTableTextRow = true := by kernel_rfl

end Go.Proofs.YtlignkgfclenkaaDoor.fnExactTableText
