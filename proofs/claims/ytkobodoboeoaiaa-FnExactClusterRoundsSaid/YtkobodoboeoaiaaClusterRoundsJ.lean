/-
  The facts on the program that the row of ClusterRounds's law asks for. No condition.
-/
import Derived.Test.YtkobodoboeoaiaaRows
import Derived.JoinedOf
import Derived.KernelRfl
namespace Go.Proofs.Ytkobodoboeoaiaa.fnExactClusterRounds

theorem joined : joinedFacts Try.pinned.checked.prog 6 Try.f6 Rows.fnExactClusterRoundsSpec Rows.fnExactClusterRoundsRow = true := by kernel_rfl

end Go.Proofs.Ytkobodoboeoaiaa.fnExactClusterRounds
