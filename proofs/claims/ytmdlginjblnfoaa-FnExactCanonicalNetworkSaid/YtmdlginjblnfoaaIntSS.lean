/-
  Contracts of the laws' helpers on slices of slices of integers.
-/
import Derived.Test.YtmdlginjblnfoaaRows
import Derived.Test.YtmdlginjblnfoaaInts
import Derived.Test.YtmdlginjblnfoaaSS
import Derived.Deep.RegionWith
import Derived.Test.YtmdlginjblnfoaaEnds
namespace Go.Proofs.Ytmdlginjblnfoaa
open Go.ChangeShapes Go.WideShapes Go.ChangeAt Go.RowKit
set_option linter.unusedVariables false

theorem Try.info23 : (Try.prog.info? 23).map (fun i => (i.zero, i.size, i.bytes)) = some (some (.slice none 0 0), 1, 24) := by kernel_rfl

/-- what mark leaves in a slice of slices -/
def mkIntSS (k : Int) (xss : List (List Int)) : List (List Int) := (List.range xss.length).map fun i => run (k + sumL xss i) (nthL xss i).length
theorem mkIntSS_length (k : Int) (xss : List (List Int)) : (mkIntSS k xss).length = xss.length := by simp [mkIntSS]
theorem nthL_mkIntSS (k : Int) (xss : List (List Int)) (i : Nat) (h : i < xss.length) : nthL (mkIntSS k xss) i = run (k + sumL xss i) (nthL xss i).length := by
  rw [nthL_eq (by rw [mkIntSS_length]; exact h)]
  simp [mkIntSS]

end Go.Proofs.Ytmdlginjblnfoaa
