/-
  The facts on the program that the row of FnSubsets's law asks for. No condition.
-/
import Derived.Test.YtlignkgfclenkaaRows
import Derived.JoinedOf
import Derived.KernelRfl
namespace Go.Proofs.Ytlignkgfclenkaa.fnSubsets

theorem joined : joinedFacts Try.pinned.checked.prog 7 Try.f7 Rows.fnSubsetsSpec Rows.fnSubsetsRow = true := by kernel_rfl

end Go.Proofs.Ytlignkgfclenkaa.fnSubsets
