/-
  Contracts of the laws' helpers on slices of pairs.
-/
import Derived.Test.YtbbdhcfbdndhlaaDoorRows
import Derived.Test.YtbbdhcfbdndhlaaDoorInts
import Derived.Test.YtbbdhcfbdndhlaaDoorSS
import Derived.Deep.RegionWith

namespace Go.Proofs.YtbbdhcfbdndhlaaDoor
open Go.ChangeShapes Go.WideShapes Go.ChangeAt Go.RowKit
set_option linter.unusedVariables false

theorem below_a1 (w : World) (o : Obj) : Below w.heap.size w (w.alloc o) := (Below.refl _ _).alloc (Nat.le_refl _) _
theorem below_a2 (w : World) (o o2 : Obj) : Below w.heap.size w ((w.alloc o).alloc o2) := (below_a1 w o).alloc (by simp) _
theorem below_a3 (w : World) (o o2 o3 : Obj) : Below w.heap.size w (((w.alloc o).alloc o2).alloc o3) := (below_a2 w o o2).alloc (by simp; omega) _
/-- how many elements the first k lists have -/
def sumL {α : Type} (xss : List (List α)) (k : Nat) : Nat := ((xss.take k).map List.length).sum
theorem sumL_zero {α : Type} (xss : List (List α)) : sumL xss 0 = 0 := by simp [sumL]
theorem sumL_succ {α : Type} (xss : List (List α)) (k : Nat) (h : k < xss.length) : sumL xss (k + 1) = sumL xss k + (nthL xss k).length := by
  unfold sumL
  rw [List.take_succ_eq_append_getElem h, List.map_append, List.sum_append, nthL_eq h]
  simp
theorem sumL_mono {α : Type} (xss : List (List α)) (k : Nat) (h : k ≤ xss.length) : sumL xss k ≤ sumL xss xss.length := by
  have : ∀ d, k + d ≤ xss.length → sumL xss k ≤ sumL xss (k + d) := by
    intro d
    induction d with
    | zero => intro _; exact Nat.le_refl _
    | succ d ih => intro hd; have := ih (by omega); have := sumL_succ xss (k + d) (by omega); rw [← Nat.add_assoc]; omega
  have := this (xss.length - k) (by omega)
  rwa [show k + (xss.length - k) = xss.length by omega] at this
def cntSS {α : Type} (xss : List (List α)) : Nat := sumL xss xss.length
def szSS {α : Type} (xss : List (List α)) : Nat := xss.length + cntSS xss
theorem len_le_cnt {α : Type} (xss : List (List α)) (k : Nat) (h : k < xss.length) : (nthL xss k).length ≤ cntSS xss := by
  have h1 := sumL_succ xss k h
  have h2 := sumL_mono xss (k + 1) (by omega)
  unfold cntSS; omega

/-- what is left of an allowance -/
def szr (left : Int) (n : Nat) : Int := if (n : Int) ≤ left then left - n else -1

/-- the pairs of numbers that mark leaves -/
def runE (k : Int) : Nat → List (Int × Int)
  | 0 => []
  | n + 1 => (k, k + 1) :: runE (k + 2) n
theorem runE_length (k : Int) (n : Nat) : (runE k n).length = n := by induction n generalizing k with | zero => rfl | succ n ih => simp [runE, ih]
theorem nthE_runE (k : Int) (n j : Nat) (h : j < n) : nthE (runE k n) j = (k + 2 * j, k + 2 * j + 1) := by
  induction n generalizing k j with
  | zero => omega
  | succ n ih =>
    cases j with
    | zero => simp [runE, nthE_cons_zero]
    | succ j => rw [runE, nthE_cons_succ, ih (k + 2) j (by omega)]; simp only [Prod.mk.injEq]; omega
theorem endCell_run (k : Int) (n j : Nat) (h : j < n * 2) : endCell (runE k n) j = .int .i64 (k + j) := by
  unfold endCell
  rw [nthE_runE _ _ _ (by omega)]
  split
  · congr 1; omega
  · congr 1; omega

/-- what mark leaves in a slice of slices -/
def mkEndSS (k : Int) (xss : List (List (Int × Int))) : List (List (Int × Int)) := (List.range xss.length).map fun i => runE (k + 2 * sumL xss i) (nthL xss i).length
theorem mkEndSS_length (k : Int) (xss : List (List (Int × Int))) : (mkEndSS k xss).length = xss.length := by simp [mkEndSS]
theorem nthL_mkEndSS (k : Int) (xss : List (List (Int × Int))) (i : Nat) (h : i < xss.length) : nthL (mkEndSS k xss) i = runE (k + 2 * sumL xss i) (nthL xss i).length := by
  rw [nthL_eq (by rw [mkEndSS_length]; exact h)]
  simp [mkEndSS]

end Go.Proofs.YtbbdhcfbdndhlaaDoor
