/-
  The facts on the program that the row of WaveFrom's law asks for. No condition.
-/
import Derived.Test.YtoebgfmnjjiddaaRows
import Derived.JoinedOf
import Derived.KernelRfl
namespace Go.Proofs.Ytoebgfmnjjiddaa.fnExactWaveFrom

theorem joined : joinedFacts Try.pinned.checked.prog 10 Try.f10 Rows.fnExactWaveFromSpec Rows.fnExactWaveFromRow = true := by kernel_rfl

end Go.Proofs.Ytoebgfmnjjiddaa.fnExactWaveFrom
