/-
  Contracts of allDistances, isNodeSet, ruSet, slices.Contains.
-/
import Derived.Test.YtmdlginjblnfoaaDistI
import Derived.Test.YtmdlginjblnfoaaOwnSS
import Derived.Test.YtmdlginjblnfoaaIsNet
namespace Go.Proofs.Ytmdlginjblnfoaa
open Go.ChangeShapes Go.WideShapes Go.ChangeAt Go.RowKit
set_option linter.unusedVariables false

def allDist (N : NetD) : List (List Int) := (List.range N.ends.length).map (dist N)
theorem allDist_length (N : NetD) : (allDist N).length = N.ends.length := by simp [allDist]
theorem nthL_allDist (N : NetD) {j : Nat} (h : j < N.ends.length) : nthL (allDist N) j = dist N j := by simp [nthL, allDist, h]
theorem good_degs {N : NetD} (h : N.good = true) : ∀ u, u < N.ends.length → (nthL N.ends u).length ≤ 1048576 := fun u hu => by have := good_deg h hu; omega

/-- a set of nodes of a network -/
def nodeSet (N : NetD) (zs : List Int) : Bool := N.good && rising zs 0 ((N.ends.length : Int) - 1)



end Go.Proofs.Ytmdlginjblnfoaa
