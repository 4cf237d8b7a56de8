/-
  The reference's side of CutView and ChildView.
-/
import Derived.Test.YtlfdhhmccjkogaaVz
import Derived.Test.YtlfdhhmccjkogaaTxV
import Derived.Test.YtlfdhhmccjkogaaExt
import Derived.Laws.IdiomStrings
import Derived.Laws.Concat
import Derived.Deep.RegionHeld3
namespace Go.Proofs.Ytlfdhhmccjkogaa
open Go.ChangeShapes Go.WideShapes Go.ChangeAt Go.RowKit
set_option linter.unusedVariables false

/-- bytes as a string -/
def strL (l : List UInt8) : ByteArray := ⟨l.toArray⟩
theorem strL_app (a b : List UInt8) : strL a ++ strL b = strL (a ++ b) := by
  apply ByteArray.ext
  simp [strL]
theorem txtS_eq (n : Nat) (t : VT) : txtS n t = strL (txt n t) := rfl

theorem l1In_any (n lo hi : Int) (w : World) :
    Calls Try.prog 23 #[.int .i64 n, .int .i64 lo, .int .i64 hi] w fun e w' => e = .returned (.bool (inB n lo hi)) ∧ w = w' := by
  by_cases h1 : lo ≤ n
  · go_enter Try.func23, Try.ntmps23
    go_wp2
    go_ret
    exact ⟨by simp [inB, h1], rfl⟩
  · have h1' : n < lo := by omega
    go_enter Try.func23, Try.ntmps23
    go_wp2
    go_ret
    exact ⟨ret_bool (by unfold inB; rw [decide_eq_false (show ¬ lo ≤ n by omega)]; rfl), rfl⟩
theorem ret_str {a b : ByteArray} (h : b = a) : Ending.returned (.string a) = .returned (.string b) := by rw [h]
theorem add_str {P : Program} {a b c : List UInt8} {s r : ByteArray} (hs : s = strL a) (hr : r = strL b) (h : a.length + b.length ≤ 100000) (hc : a ++ b = c) (w : World) : (Op.stringOp .add s r).run P w = .ok (.string (strL c)) w := by
  subst hc; subst hs; subst hr
  exact run_string_add_lists w a b (by omega) (by omega)

end Go.Proofs.Ytlfdhhmccjkogaa
