/-
  The facts on the program that the row of DefectiveColouring's law asks for. No condition.
-/
import Derived.Test.YtoebgfmnjjiddaaRows
import Derived.JoinedOf
import Derived.KernelRfl
namespace Go.Proofs.Ytoebgfmnjjiddaa.fnExactDefectiveColouring

theorem joined : joinedFacts Try.pinned.checked.prog 9 Try.f9 Rows.fnExactDefectiveColouringSpec Rows.fnExactDefectiveColouringRow = true := by kernel_rfl

end Go.Proofs.Ytoebgfmnjjiddaa.fnExactDefectiveColouring
