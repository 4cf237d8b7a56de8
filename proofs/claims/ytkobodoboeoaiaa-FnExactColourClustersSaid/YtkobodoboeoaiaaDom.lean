/-
  Contracts: slices.Compact, slices.Contains at []bool, near with a row of its own, the closure of GreedyDominating.
-/
import Derived.Test.YtkobodoboeoaiaaDomP
import Derived.Test.YtkobodoboeoaiaaBasics
import Derived.Test.YtkobodoboeoaiaaPut2
import Derived.Test.YtkobodoboeoaiaaReg
import Derived.Deep.AppendLies
import Derived.Lib.Hide
namespace Go.Proofs.Ytkobodoboeoaiaa
open Go.ChangeShapes Go.WideShapes Go.ChangeAt Go.RowKit
set_option linter.unusedVariables false

open Go.Sort in
/-- slices.Compact -/
theorem compact_any (v : Value) (zs : List Int) (lo hi : Nat) (w : World) (h : IntS w lo hi v zs) (hhi : hi ≤ w.heap.size) (hn : zs.length ≤ 16777216) :
    Calls Try.prog 123 #[v] w fun e w' => ∃ r, e = .returned r ∧ IntS w' lo hi r (Lib.compact zs) ∧ w.grownBy w' (rowOf zs.length v) := by
  obtain ⟨A, c, rfl, hc1, hc2, hcell⟩ := h.form
  rcases Nat.eq_zero_or_pos zs.length with h0 | h0
  · obtain rfl : zs = [] := List.eq_nil_of_length_eq_zero h0
    refine (Try.slices_Compact_int_empty _ _ _).mono ?_
    rintro e w' ⟨rfl, rfl⟩
    exact ⟨_, rfl, by simpa [Lib.compact, Lib.compactUpTo] using h, World.grownBy.refl _ _⟩
  · obtain ⟨b, off, rfl, hb1, hb2, hcs⟩ := hcell h0
    have hH : Holds (Value.int .i64) w b off zs.toArray := fun j hj => by
      have hj' : j < zs.length := by simpa using hj
      have := hcs j hj'
      rw [nth_eq hj'] at this
      simpa [hj'] using this
    refine (Try.slices_Compact_int b off c zs w hH (by omega) hc1).mono ?_
    rintro e w' ⟨rfl, q, rfl⟩
    have hl := compact_len zs
    obtain ⟨cs, HC⟩ : ∃ cs, Lib.compact zs = cs := ⟨_, rfl⟩
    rw [HC] at hl ⊢
    have hs : (cs ++ List.replicate (zs.length - cs.length) 0).toArray.size = zs.toArray.size := by simp; omega
    have hH2 := holds_putRow (Value.int .i64) (Sort.ahead w q) b off zs.toArray (cs ++ List.replicate (zs.length - cs.length) 0).toArray hH hs
    refine ⟨_, rfl, ?_, ?_⟩
    · refine ⟨_, c, rfl, by omega, hc2, fun _ => ⟨b, off, rfl, hb1, hb2, fun j hj => ?_⟩⟩
      have hj1 : j < cs.length := by omega
      have hj2 : j < (cs ++ List.replicate (zs.length - cs.length) 0).length := by rw [List.length_append]; omega
      obtain ⟨q1, q2⟩ := hH2 j (by simpa using hj2)
      refine ⟨?_, q2⟩
      show _ = some (Value.int .i64 (nth cs j))
      rw [q1, nth_eq hj1]
      rw [getElem!_pos _ j (by simpa using hj2)]
      simp [List.getElem_append_left hj1]
    · rw [rowOf_some h0]
      refine ⟨rfl, rfl, rfl, by simp [putRow, mapBlock, Sort.ahead], fun k hk hne => ?_⟩
      have hkb : b ≠ k := fun e => hne (by rw [e])
      simp [putRow, mapBlock, Array.getElem?_modify, hkb, Sort.ahead]

/-- some truth value of the list is false -/
def hasF (bs : List Bool) : Bool := (List.range bs.length).any fun j => !nthB bs j
theorem hasF_true {bs : List Bool} : hasF bs = true ↔ ∃ j, j < bs.length ∧ nthB bs j = false := by
  unfold hasF
  rw [List.any_eq_true]
  constructor
  · rintro ⟨j, hj, e⟩; exact ⟨j, List.mem_range.1 hj, by simpa using e⟩
  · rintro ⟨j, hj, e⟩; exact ⟨j, List.mem_range.2 hj, by simpa using e⟩
theorem hasF_false {bs : List Bool} : hasF bs = false ↔ ∀ j, j < bs.length → nthB bs j = true := by
  rw [Bool.eq_false_iff]
  constructor
  · intro h j hj
    by_cases hc : nthB bs j = true
    · exact hc
    · exact absurd (hasF_true.2 ⟨j, hj, by simpa using hc⟩) h
  · intro h h2
    obtain ⟨j, hj, e⟩ := hasF_true.1 h2
    rw [h j hj] at e; cases e
theorem hasF_idx (bs : List Bool) : decide (0 ≤ fidxN (fun j => !nthB bs j) bs.length) = hasF bs := by
  unfold fidxN hasF
  cases (List.range bs.length).any fun j => !nthB bs j <;> simp
theorem ownI_app {w : World} {base : Nat} {e : TypeId} {v : Value} {ps : List Int} {z : Int} (h : w.ownsRow base e 1 v (ps.length + 1) (ps.map (Value.int .i64) ++ [.int .i64 z])) : OwnI w base e v (ps ++ [z]) := by
  unfold OwnI Own
  rw [List.map_append]
  simpa using h

end Go.Proofs.Ytkobodoboeoaiaa
