/-
  The facts on the program that the row of MergeTables's law asks for. No condition.
-/
import Derived.Test.YtlfdhhmccjkogaaRows
import Derived.JoinedOf
import Derived.KernelRfl
namespace Go.Proofs.Ytlfdhhmccjkogaa.fnExactMergeTables

theorem joined : joinedFacts Try.pinned.checked.prog 3 Try.f3 Rows.fnExactMergeTablesSpec Rows.fnExactMergeTablesRow = true := by kernel_rfl

end Go.Proofs.Ytlfdhhmccjkogaa.fnExactMergeTables
