/-
  Contract of the reference's biDepths: the root and the depths of a tree given by the ports of parents.
-/
import Derived.Test.YtoebgfmnjjiddaaTreeP
import Derived.Test.YtoebgfmnjjiddaaOwn
namespace Go.Proofs.Ytoebgfmnjjiddaa
open Go.ChangeShapes Go.WideShapes Go.ChangeAt Go.RowKit
set_option linter.unusedVariables false

theorem ret_ivb {x y : Int} {r : Value} {c d : Bool} (h : x = y) (h2 : c = d) : Ending.returned (.tuple #[.int .i64 x, r, .bool c]) = .returned (.tuple #[.int .i64 y, r, .bool d]) := by rw [h, h2]
theorem td_no {N : NetD} {ps : List Int} (h : tdOk N ps = false) : tdRoot N ps = 0 ∧ tdDepths N ps = [] := by unfold tdRoot tdDepths; rw [h]; exact ⟨rfl, rfl⟩

end Go.Proofs.Ytoebgfmnjjiddaa
