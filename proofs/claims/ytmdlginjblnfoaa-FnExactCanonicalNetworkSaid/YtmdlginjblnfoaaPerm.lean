/-
  Contracts: permutations, orders of a network's nodes, least free numbers (program and reference).
-/
import Derived.Test.YtmdlginjblnfoaaBasics
import Derived.Test.YtmdlginjblnfoaaNearP
namespace Go.Proofs.Ytmdlginjblnfoaa
open Go.ChangeShapes Go.WideShapes Go.ChangeAt Go.RowKit
set_option linter.unusedVariables false

theorem Try.infoBool : (Try.prog.info? 4).map (fun i => (i.zero, i.size, i.bytes)) = some (some (.bool false), 1, 1) := by kernel_rfl
theorem permB_bad {zs : List Int} {n k : Nat} (hk : k < zs.length) (h : permAt zs n k = false) : permB zs n = false := by unfold permB; rw [rangeAll_false hk h]; rfl
def orderB (N : NetD) (zs : List Int) : Bool := N.good && permB zs N.ends.length
theorem seen_step {zs : List Int} {n k t : Nat} {bs : List Bool} (hl : bs.length = n) (hk : k < zs.length) (ht : nth zs k = t) (htn : t < n) (h : ∀ j : Nat, j < n → nthB bs j = decide ((j : Int) ∈ zs.take k)) : ∀ j : Nat, j < n → nthB (bs.set t true) j = decide ((j : Int) ∈ zs.take (k + 1)) := fun j hj => by
  rw [nthB_set _ _ _ _ (by omega), List.take_succ_eq_append_getElem hk, ← nth_eq hk, ht]
  by_cases e : j = t
  · rw [if_pos e, e]; simp
  · rw [if_neg e, h j hj, Bool.eq_iff_iff]
    simp only [decide_eq_true_eq, List.mem_append, List.mem_singleton]
    exact ⟨fun h => .inl h, fun h => h.resolve_right (by omega)⟩

end Go.Proofs.Ytmdlginjblnfoaa
