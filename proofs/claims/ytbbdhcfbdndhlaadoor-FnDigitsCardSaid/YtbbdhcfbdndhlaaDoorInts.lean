/-
  Contracts of the laws' helpers on slices of integers: toIntS copies, eqIntS compares, markIntS writes running numbers, heldIntS finds them again.
-/
import Derived.Test.YtbbdhcfbdndhlaaDoorRows
import Derived.Test.YtbbdhcfbdndhlaaDoorMem
import Derived.WalkKit
import Derived.ProofKit
import Derived.Outline
import Derived.BigQuiet
import Derived.Deep.QuietTactic
namespace Go.Proofs.YtbbdhcfbdndhlaaDoor
open Go.ChangeShapes Go.WideShapes Go.ChangeAt Go.RowKit
set_option linter.unusedVariables false

theorem Tryd.info3 : (Tryd.prog.info? 3).map (fun i => (i.zero, i.size, i.bytes)) = some (some (.int .i64 0), 1, 8) := by kernel_rfl

/-- eqIntS compares two lists -/
def eqI (xs ys : List Int) : Bool := decide (xs = ys)

/-- the numbers that mark leaves: k, k+1, .. -/
def run (k : Int) : Nat → List Int
  | 0 => []
  | n + 1 => k :: run (k + 1) n
theorem run_length (k : Int) (n : Nat) : (run k n).length = n := by induction n generalizing k with | zero => rfl | succ n ih => simp [run, ih]
theorem nth_run (k : Int) (n j : Nat) (h : j < n) : nth (run k n) j = k + j := by
  induction n generalizing k j with
  | zero => omega
  | succ n ih =>
    cases j with
    | zero => simp [run, nth_cons_zero]
    | succ j => rw [run, nth_cons_succ, ih (k + 1) j (by omega)]; omega

end Go.Proofs.YtbbdhcfbdndhlaaDoor
