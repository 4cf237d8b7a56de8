/-
  Contracts of allDistances, isNodeSet, ruSet, slices.Contains.
-/
import Derived.Test.YtakcjdlliejldaaGreatDistI
import Derived.Test.YtakcjdlliejldaaGreatOwnSS
import Derived.Test.YtakcjdlliejldaaGreatIsNet
namespace Go.Proofs.YtakcjdlliejldaaGreat
open Go.ChangeShapes Go.WideShapes Go.ChangeAt Go.RowKit
set_option linter.unusedVariables false

def allDist (N : NetD) : List (List Int) := (List.range N.ends.length).map (dist N)
theorem allDist_length (N : NetD) : (allDist N).length = N.ends.length := by simp [allDist]
theorem nthL_allDist (N : NetD) {j : Nat} (h : j < N.ends.length) : nthL (allDist N) j = dist N j := by simp [nthL, allDist, h]
theorem good_degs {N : NetD} (h : N.good = true) : ∀ u, u < N.ends.length → (nthL N.ends u).length ≤ 1048576 := fun u hu => by have := good_deg h hu; omega

theorem contains_any (v : Value) (zs : List Int) (x : Int) (lo hi : Nat) (w : World) (h : IntS w lo hi v zs) :
    Calls Tryz.prog 79 #[v, .int .i64 x] w fun e w' => e = .returned (.bool (decide (x ∈ zs))) ∧ w = w' := by
  obtain ⟨A, c, rfl, hc1, hc2, hcell⟩ := h.form
  rcases Nat.eq_zero_or_pos zs.length with h0 | h0
  · obtain rfl : zs = [] := List.eq_nil_of_length_eq_zero h0
    refine (Tryz.slices_Contains_int_empty _ _ _ _).mono ?_
    rintro e w' ⟨rfl, rfl⟩
    exact ⟨ret_bool (by simp), rfl⟩
  · obtain ⟨b, off, rfl, hb1, hb2, hcs⟩ := hcell h0
    unfold maxLen at hc2
    refine (Tryz.slices_Contains_int b off zs.length c zs x w (Nat.le_refl _) (by omega) (fun j hj => (hcs j hj).1)).mono ?_
    rintro e w' ⟨rfl, rfl⟩
    rw [List.take_length]
    exact ⟨ret_bool (by rw [Bool.eq_iff_iff]; simp), rfl⟩

/-- a set of nodes of a network -/
def nodeSet (N : NetD) (zs : List Int) : Bool := N.good && rising zs 0 ((N.ends.length : Int) - 1)



end Go.Proofs.YtakcjdlliejldaaGreat
