/-
  Contracts of the laws' helpers on slices of slices of integers.
-/
import Derived.Test.YtbbdhcfbdndhlaaDoorRows
import Derived.Test.YtbbdhcfbdndhlaaDoorInts
import Derived.Test.YtbbdhcfbdndhlaaDoorSS
import Derived.Deep.RegionWith
import Derived.Test.YtbbdhcfbdndhlaaDoorEnds
namespace Go.Proofs.YtbbdhcfbdndhlaaDoor
open Go.ChangeShapes Go.WideShapes Go.ChangeAt Go.RowKit
set_option linter.unusedVariables false

theorem Tryd.info26 : (Tryd.prog.info? 26).map (fun i => (i.zero, i.size, i.bytes)) = some (some (.slice none 0 0), 1, 24) := by kernel_rfl

/-- what mark leaves in a slice of slices -/
def mkIntSS (k : Int) (xss : List (List Int)) : List (List Int) := (List.range xss.length).map fun i => run (k + sumL xss i) (nthL xss i).length
theorem mkIntSS_length (k : Int) (xss : List (List Int)) : (mkIntSS k xss).length = xss.length := by simp [mkIntSS]
theorem nthL_mkIntSS (k : Int) (xss : List (List Int)) (i : Nat) (h : i < xss.length) : nthL (mkIntSS k xss) i = run (k + sumL xss i) (nthL xss i).length := by
  rw [nthL_eq (by rw [mkIntSS_length]; exact h)]
  simp [mkIntSS]

end Go.Proofs.YtbbdhcfbdndhlaaDoor
