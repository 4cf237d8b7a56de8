/-
  Contracts of slices.IndexFunc and slices.ContainsFunc at edges, ends and rows; a function value's contract is asked at each place.
-/
import Derived.Test.YtbbdhcfbdndhlaaDoorQuadP
import Derived.Test.YtbbdhcfbdndhlaaDoorExt
import Derived.Deep.Cut
namespace Go.Proofs.YtbbdhcfbdndhlaaDoor
open Go.ChangeShapes Go.WideShapes Go.ChangeAt Go.RowKit
set_option linter.unusedVariables false

/-- the first number below n that a predicate takes, or -1 -/
def fidxN (p : Nat → Bool) (n : Nat) : Int := if (List.range n).any p then ((List.range n).findIdx p : Int) else -1
theorem fidxN_hit {p : Nat → Bool} {n k : Nat} (hk : k < n) (h : p k = true) (hb : ∀ j, j < k → p j = false) : fidxN p n = k := by
  have ha : (List.range n).any p = true := List.any_eq_true.2 ⟨k, List.mem_range.2 hk, h⟩
  unfold fidxN
  rw [if_pos ha]
  have : (List.range n).findIdx p = k := by
    rw [List.findIdx_eq (by simpa using hk)]
    refine ⟨by simpa using h, fun j hj => ?_⟩
    have := hb j hj
    simpa using this
  rw [this]
theorem fidxN_none {p : Nat → Bool} {n : Nat} (h : ∀ j, j < n → p j = false) : fidxN p n = -1 := by
  unfold fidxN
  rw [if_neg]
  intro ha
  obtain ⟨x, hx, hp⟩ := List.any_eq_true.1 ha
  have := h x (List.mem_range.1 hx)
  rw [hp] at this
  cases this
theorem fidxN_any (p : Nat → Bool) (n : Nat) : decide (0 ≤ fidxN p n) = (List.range n).any p := by
  unfold fidxN
  split
  · rename_i h; rw [h]; simp
  · rename_i h; rw [Bool.not_eq_true] at h; rw [h]; rfl
theorem fidxN_cases (p : Nat → Bool) (n : Nat) : (fidxN p n = -1 ∧ ∀ j, j < n → p j = false) ∨ ∃ k : Nat, k < n ∧ fidxN p n = k ∧ p k = true ∧ ∀ j, j < k → p j = false := by
  induction n with
  | zero => left; exact ⟨rfl, fun j hj => absurd hj (by omega)⟩
  | succ n ih =>
    rcases ih with ⟨_, h⟩ | ⟨k, h1, _, h3, h4⟩
    · cases hp : p n with
      | true => right; exact ⟨n, by omega, fidxN_hit (by omega) hp h, hp, h⟩
      | false =>
        left
        have h' : ∀ j, j < n + 1 → p j = false := fun j hj => by
          by_cases e : j = n
          · rw [e]; exact hp
          · exact h j (by omega)
        exact ⟨fidxN_none h', h'⟩
    · right; exact ⟨k, by omega, fidxN_hit (by omega) h3 h4, h3, h4⟩




end Go.Proofs.YtbbdhcfbdndhlaaDoor
