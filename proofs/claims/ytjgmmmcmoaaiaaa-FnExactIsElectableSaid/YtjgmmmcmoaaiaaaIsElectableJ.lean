/-
  The facts on the program that the row of IsElectable's law asks for. No condition.
-/
import Derived.Test.YtjgmmmcmoaaiaaaRows
import Derived.JoinedOf
import Derived.KernelRfl
namespace Go.Proofs.Ytjgmmmcmoaaiaaa.fnExactIsElectable

theorem joined : joinedFacts Try.pinned.checked.prog 3 Try.f3 Rows.fnExactIsElectableSpec Rows.fnExactIsElectableRow = true := by kernel_rfl

end Go.Proofs.Ytjgmmmcmoaaiaaa.fnExactIsElectable
