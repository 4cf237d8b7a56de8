/-
  The facts on the program that the row of IsForestLabeling's law asks for. No condition.
-/
import Derived.Test.YtmfjdiccohgihaaRows
import Derived.JoinedOf
import Derived.KernelRfl
namespace Go.Proofs.Ytmfjdiccohgihaa.fnExactIsForestLabeling

theorem joined : joinedFacts Try.pinned.checked.prog 3 Try.f3 Rows.fnExactIsForestLabelingSpec Rows.fnExactIsForestLabelingRow = true := by kernel_rfl

end Go.Proofs.Ytmfjdiccohgihaa.fnExactIsForestLabeling
