/-
  The facts on the program that the row of SpanByWaves's law asks for. No condition.
-/
import Derived.Test.YtoebgfmnjjiddaaRows
import Derived.JoinedOf
import Derived.KernelRfl
namespace Go.Proofs.Ytoebgfmnjjiddaa.fnExactSpanByWaves

theorem joined : joinedFacts Try.pinned.checked.prog 11 Try.f11 Rows.fnExactSpanByWavesSpec Rows.fnExactSpanByWavesRow = true := by kernel_rfl

end Go.Proofs.Ytoebgfmnjjiddaa.fnExactSpanByWaves
