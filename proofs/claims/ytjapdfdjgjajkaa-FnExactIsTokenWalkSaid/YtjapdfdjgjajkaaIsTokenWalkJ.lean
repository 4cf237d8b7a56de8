/-
  The facts on the program that the row of IsTokenWalk's law asks for. No condition.
-/
import Derived.Test.YtjapdfdjgjajkaaRows
import Derived.JoinedOf
import Derived.KernelRfl
namespace Go.Proofs.Ytjapdfdjgjajkaa.fnExactIsTokenWalk

theorem joined : joinedFacts Try.pinned.checked.prog 4 Try.f4 Rows.fnExactIsTokenWalkSpec Rows.fnExactIsTokenWalkRow = true := by kernel_rfl

end Go.Proofs.Ytjapdfdjgjajkaa.fnExactIsTokenWalk
