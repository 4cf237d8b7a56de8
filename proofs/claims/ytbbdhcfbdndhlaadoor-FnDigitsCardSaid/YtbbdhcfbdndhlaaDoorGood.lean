/-
  Contracts of IsNetwork (program) and neGood (reference): both say whether a network is one.
-/
import Derived.Test.YtbbdhcfbdndhlaaDoorBase
import Derived.Test.YtbbdhcfbdndhlaaDoorNet
import Derived.Test.YtbbdhcfbdndhlaaDoorShelf
import Derived.Test.YtbbdhcfbdndhlaaDoorPlain
import Derived.Test.YtbbdhcfbdndhlaaDoorEndEq
import Derived.Deep.RegionHeld3
import Derived.IntWalk
namespace Go.Proofs.YtbbdhcfbdndhlaaDoor
open Go.ChangeShapes Go.WideShapes Go.ChangeAt Go.RowKit
set_option linter.unusedVariables false

/-- a port of a network -/
def NetD.port (N : NetD) (x i : Int) : Bool := inB x 0 ((N.ends.length : Int) - 1) && inB i 0 (((nthL N.ends x.toNat).length : Int) - 1)

open Go.Sort in
def insGood (zs : List Int) (n : Int) : Bool := decide ((zs.length : Int) = n) && zs.all fun x => inB x 0 9
def NetD.endOk (N : NetD) (v i : Nat) : Bool := N.port (nthE (nthL N.ends v) i).1 (nthE (nthL N.ends v) i).2 && decide (nthE (nthL N.ends (nthE (nthL N.ends v) i).1.toNat) (nthE (nthL N.ends v) i).2.toNat = ((v : Int), (i : Int)))
def NetD.rowOk (N : NetD) (v : Nat) : Bool := decide ((nthL N.ends v).length ≤ 6) && (List.range (nthL N.ends v).length).all (N.endOk v)
def NetD.headOk (N : NetD) : Bool := inB N.ends.length 1 40 && (idsGood N.ids N.ends.length && insGood N.inputs N.ends.length)
def NetD.good (N : NetD) : Bool := N.headOk && (List.range N.ends.length).all N.rowOk
theorem good_head {N : NetD} (h : N.headOk = false) : N.good = false := by unfold NetD.good; rw [h]; rfl
theorem good_row {N : NetD} {v : Nat} (hv : v < N.ends.length) (h : N.rowOk v = false) : N.good = false := by
  have : (List.range N.ends.length).all N.rowOk = false := by
    rw [Bool.eq_false_iff]; intro ha; rw [List.all_eq_true] at ha
    have := ha v (List.mem_range.2 hv); rw [h] at this; cases this
  unfold NetD.good; rw [this, Bool.and_false]
theorem good_yes {N : NetD} (h : N.headOk = true) (hr : ∀ v, v < N.ends.length → N.rowOk v = true) : N.good = true := by
  have : (List.range N.ends.length).all N.rowOk = true := by rw [List.all_eq_true]; intro v hv; exact hr v (List.mem_range.1 hv)
  unfold NetD.good; rw [this, h]; rfl
theorem row_wide {N : NetD} {v : Nat} (h : 6 < (nthL N.ends v).length) : N.rowOk v = false := by unfold NetD.rowOk; rw [decide_eq_false (by omega)]; rfl
theorem row_end {N : NetD} {v i : Nat} (hi : i < (nthL N.ends v).length) (h : N.endOk v i = false) : N.rowOk v = false := by
  have : (List.range (nthL N.ends v).length).all (N.endOk v) = false := by
    rw [Bool.eq_false_iff]; intro ha; rw [List.all_eq_true] at ha
    have := ha i (List.mem_range.2 hi); rw [h] at this; cases this
  unfold NetD.rowOk; rw [this, Bool.and_false]
theorem row_yes {N : NetD} {v : Nat} (h : (nthL N.ends v).length ≤ 6) (hr : ∀ i, i < (nthL N.ends v).length → N.endOk v i = true) : N.rowOk v = true := by
  have : (List.range (nthL N.ends v).length).all (N.endOk v) = true := by rw [List.all_eq_true]; intro i hi; exact hr i (List.mem_range.1 hi)
  unfold NetD.rowOk; rw [this, decide_eq_true h]; rfl

end Go.Proofs.YtbbdhcfbdndhlaaDoor
