/-
  Contracts of NearestOf (program and reference). Printed by gen_near.py.
-/
import Derived.Test.YtlignkgfclenkaaNearP
namespace Go.Proofs.Ytlignkgfclenkaa
open Go.ChangeShapes Go.WideShapes Go.ChangeAt Go.RowKit
set_option linter.unusedVariables false

def nearStep (ds : List Int) (best x : Int) : Int := if 0 ≤ nth ds x.toNat ∧ (best < 0 ∨ nth ds x.toNat < nth ds best.toNat) then x else best
def nearest (ds zs : List Int) : Int := zs.foldl (nearStep ds) (-1)
def nearAll (N : NetD) (zs : List Int) : List Int := (List.range N.ends.length).map fun v => nearest (dist N v) zs
def nearOut (N : NetD) (zs : List Int) : List Int := if nodeSet N zs then nearAll N zs else []
theorem nearAll_length (N : NetD) (zs : List Int) : (nearAll N zs).length = N.ends.length := by simp [nearAll]
theorem foldl_take_succ {α : Type} (f : α → Int → α) (s : α) (zs : List Int) {k : Nat} (hk : k < zs.length) : (zs.take (k + 1)).foldl f s = f ((zs.take k).foldl f s) (nth zs k) := by
  rw [List.take_succ_eq_append_getElem hk, List.foldl_append, nth_eq hk]; rfl
theorem nodeSet_good {N : NetD} {zs : List Int} (h : nodeSet N zs = true) : N.good = true := by unfold nodeSet at h; rw [Bool.and_eq_true] at h; exact h.1
theorem nodeSet_mem {N : NetD} {zs : List Int} (h : nodeSet N zs = true) {k : Nat} (hk : k < zs.length) : ∃ t : Nat, nth zs k = t ∧ t < N.ends.length := by
  unfold nodeSet at h
  rw [Bool.and_eq_true, rising_iff] at h
  have := inB_le (h.2.1 _ (nth_mem hk))
  exact ⟨(nth zs k).toNat, by omega, by omega⟩
theorem nearOut_len (N : NetD) (zs : List Int) : (nearOut N zs).length ≤ 40 := by
  unfold nearOut
  split
  · rename_i h; rw [nearAll_length]; exact (good_n (nodeSet_good h)).2
  · simp

end Go.Proofs.Ytlignkgfclenkaa
