/-
  Contracts of the laws' helpers on networks: szNetwork counts, toNetwork copies, eqNetwork compares, markNetwork writes.
-/
import Derived.Test.YtbbdhcfbdndhlaaDoorEnds
import Derived.Test.YtbbdhcfbdndhlaaDoorIntSS
import Derived.Test.YtbbdhcfbdndhlaaDoorOpen
namespace Go.Proofs.YtbbdhcfbdndhlaaDoor
open Go.ChangeShapes Go.WideShapes Go.ChangeAt Go.RowKit
set_option linter.unusedVariables false

def NetD.sz (N : NetD) : Nat := szSS N.ends + N.ids.length + N.inputs.length
def NetD.cnt (N : NetD) : Nat := 2 * cntSS N.ends + N.ids.length + N.inputs.length
/-- every number of the network fits an int -/
structure NetD.Ok (N : NetD) : Prop where
  ends : ∀ l ∈ N.ends, ∀ e ∈ l, I64 e.1 ∧ I64 e.2
  ids : ∀ z ∈ N.ids, I64 z
  inputs : ∀ z ∈ N.inputs, I64 z

theorem cnt_le_sz {α : Type} (xss : List (List α)) : cntSS xss ≤ szSS xss := by unfold szSS; omega
theorem NetD.cnt_le (N : NetD) : N.cnt ≤ 2 * N.sz := by unfold NetD.cnt NetD.sz szSS; omega
theorem szr_pos {left : Int} {n : Nat} (h : (n : Int) ≤ left) : szr left n = left - n := by unfold szr; rw [if_pos h]
theorem szr_neg {left : Int} {n : Nat} (h : ¬ (n : Int) ≤ left) : szr left n = -1 := by unfold szr; rw [if_neg h]

/-- what mark leaves in a network -/
def NetD.mk_ (k : Int) (N : NetD) : NetD := ⟨mkEndSS k N.ends, run (k + 2 * cntSS N.ends) N.ids.length, run (k + 2 * cntSS N.ends + N.ids.length) N.inputs.length⟩

end Go.Proofs.YtbbdhcfbdndhlaaDoor
