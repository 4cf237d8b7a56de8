/-
  The facts on the program that the row of FnDigits's law asks for. No condition.
-/
import Derived.Test.YtbbdhcfbdndhlaaDoorRows
import Derived.JoinedOf
import Derived.KernelRfl
namespace Go.Proofs.YtbbdhcfbdndhlaaDoor.fnDigits

theorem joined : joinedFacts Tryd.pinned.checked.prog 3 Tryd.f3 Rows.fnDigitsSpec Rows.fnDigitsRow = true := by kernel_rfl

end Go.Proofs.YtbbdhcfbdndhlaaDoor.fnDigits
