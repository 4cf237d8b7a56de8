/-
  The facts on the program that the row of FnSums's law asks for. No condition.
-/
import Derived.Test.YtanikenkfnhicaaRows
import Derived.JoinedOf
import Derived.KernelRfl
namespace Go.Proofs.Ytanikenkfnhicaa.fnSums

theorem joined : joinedFacts Try.pinned.checked.prog 3 Try.f3 Rows.fnSumsSpec Rows.fnSumsRow = true := by kernel_rfl

end Go.Proofs.Ytanikenkfnhicaa.fnSums
