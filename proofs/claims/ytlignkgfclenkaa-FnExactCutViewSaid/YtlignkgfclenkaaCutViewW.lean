/-
  For all arguments the program's CutView returns what the reference's returns, leaves its arguments as they were, and returns memory of its own. No condition.
-/
import Derived.Test.YtlignkgfclenkaaTs
import Derived.Deep.RegionHeld3
namespace Go.Proofs.Ytlignkgfclenkaa.fnExactCutView
open Go.ChangeShapes Go.WideShapes Go.ChangeAt Go.RowKit
set_option linter.unusedVariables false

theorem own : ownKnob Try.prog.godebug = none := by kernel_rfl
theorem laidOut : laidOutB Try.prog = true := by kernel_rfl

set_option maxHeartbeats 8000000 in
set_option maxRecDepth 100000 in
theorem walk (w : World) (s0 : ByteArray) (i0 : s0.size ≤ maxLen) (x1 : Int) (i1 : I64 x1) :
    Calls Try.prog 4 #[.string s0, .int .i64 x1] w fun e w' => e = .returned (.bool true) ∧ Below w.heap.size w w' := by
  have I0 := Lib.hid i0; clear i0
  have I1 := Lib.hid i1; clear i1
  by_cases cond0 : s0.size ≤ 1048576
  case neg =>
    go_enter Try.func4, Try.ntmps4
    go_wp2_with fail
    go_ret
    exact ⟨rfl, Below.refl _ _⟩
  case pos =>
    go_enter Try.func4, Try.ntmps4
    go_wp2_with fail
    refine (CutView_spec s0 x1 _   I0.out I1.out).mono ?_
    rintro e w1 ⟨rfl, hb1⟩
    have hs1 := hb1.size
    have hbw1 := hb1
    go_wp2_with fail
    refine (CutView_impl s0 x1 _   I0.out I1.out).mono ?_
    rintro e w2 ⟨rfl, hb2⟩
    have hs2 := hb2.size
    have hbw2 := hbw1.trans (hb2.mono (by omega))
    clear hbw1
    go_wp2_with fail
    go_ret
    exact ⟨rfl, hbw2⟩
end Go.Proofs.Ytlignkgfclenkaa.fnExactCutView
