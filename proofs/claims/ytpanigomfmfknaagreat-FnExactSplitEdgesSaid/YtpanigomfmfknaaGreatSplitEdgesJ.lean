/-
  The facts on the program that the row of SplitEdges's law asks for. No condition.
-/
import Derived.Test.YtpanigomfmfknaaGreatRows
import Derived.JoinedOf
import Derived.KernelRfl
namespace Go.Proofs.YtpanigomfmfknaaGreat.fnExactSplitEdges

theorem joined : joinedFacts Tryz.pinned.checked.prog 4 Tryz.f4 Rows.fnExactSplitEdgesSpec Rows.fnExactSplitEdgesRow = true := by kernel_rfl

end Go.Proofs.YtpanigomfmfknaaGreat.fnExactSplitEdges
