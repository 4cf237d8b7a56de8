/-
  The facts on the program that the row of TokenWalk's law asks for. No condition.
-/
import Derived.Test.YtjapdfdjgjajkaaRows
import Derived.JoinedOf
import Derived.KernelRfl
namespace Go.Proofs.Ytjapdfdjgjajkaa.fnExactTokenWalk

theorem joined : joinedFacts Try.pinned.checked.prog 3 Try.f3 Rows.fnExactTokenWalkSpec Rows.fnExactTokenWalkRow = true := by kernel_rfl

end Go.Proofs.Ytjapdfdjgjajkaa.fnExactTokenWalk
