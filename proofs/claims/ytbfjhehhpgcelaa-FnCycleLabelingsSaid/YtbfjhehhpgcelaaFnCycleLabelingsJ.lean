/-
  The facts on the program that the row of FnCycleLabelings's law asks for. No condition.
-/
import Derived.Test.YtbfjhehhpgcelaaRows
import Derived.JoinedOf
import Derived.KernelRfl
namespace Go.Proofs.Ytbfjhehhpgcelaa.fnCycleLabelings

theorem joined : joinedFacts Try.pinned.checked.prog 3 Try.f3 Rows.fnCycleLabelingsSpec Rows.fnCycleLabelingsRow = true := by kernel_rfl

end Go.Proofs.Ytbfjhehhpgcelaa.fnCycleLabelings
