/-
  The facts on the program that the row of GreedyDominating's law asks for. No condition.
-/
import Derived.Test.YtoebgfmnjjiddaaRows
import Derived.JoinedOf
import Derived.KernelRfl
namespace Go.Proofs.Ytoebgfmnjjiddaa.fnExactGreedyDominating

theorem joined : joinedFacts Try.pinned.checked.prog 5 Try.f5 Rows.fnExactGreedyDominatingSpec Rows.fnExactGreedyDominatingRow = true := by kernel_rfl

end Go.Proofs.Ytoebgfmnjjiddaa.fnExactGreedyDominating
