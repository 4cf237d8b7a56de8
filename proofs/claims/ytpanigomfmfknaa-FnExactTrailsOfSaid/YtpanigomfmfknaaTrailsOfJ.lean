/-
  The facts on the program that the row of TrailsOf's law asks for. No condition.
-/
import Derived.Test.YtpanigomfmfknaaRows
import Derived.JoinedOf
import Derived.KernelRfl
namespace Go.Proofs.Ytpanigomfmfknaa.fnExactTrailsOf

theorem joined : joinedFacts Try.pinned.checked.prog 3 Try.f3 Rows.fnExactTrailsOfSpec Rows.fnExactTrailsOfRow = true := by kernel_rfl

end Go.Proofs.Ytpanigomfmfknaa.fnExactTrailsOf
