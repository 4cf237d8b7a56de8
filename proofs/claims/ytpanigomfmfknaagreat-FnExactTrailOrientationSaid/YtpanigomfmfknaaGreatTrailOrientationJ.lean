/-
  The facts on the program that the row of TrailOrientation's law asks for. No condition.
-/
import Derived.Test.YtpanigomfmfknaaGreatRows
import Derived.JoinedOf
import Derived.KernelRfl
namespace Go.Proofs.YtpanigomfmfknaaGreat.fnExactTrailOrientation

theorem joined : joinedFacts Tryz.pinned.checked.prog 3 Tryz.f3 Rows.fnExactTrailOrientationSpec Rows.fnExactTrailOrientationRow = true := by kernel_rfl

end Go.Proofs.YtpanigomfmfknaaGreat.fnExactTrailOrientation
