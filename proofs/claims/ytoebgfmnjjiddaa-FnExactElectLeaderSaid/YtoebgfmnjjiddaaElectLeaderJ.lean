/-
  The facts on the program that the row of ElectLeader's law asks for. No condition.
-/
import Derived.Test.YtoebgfmnjjiddaaRows
import Derived.JoinedOf
import Derived.KernelRfl
namespace Go.Proofs.Ytoebgfmnjjiddaa.fnExactElectLeader

theorem joined : joinedFacts Try.pinned.checked.prog 4 Try.f4 Rows.fnExactElectLeaderSpec Rows.fnExactElectLeaderRow = true := by kernel_rfl

end Go.Proofs.Ytoebgfmnjjiddaa.fnExactElectLeader
