/-
  Contract of the program's treeDepths: the root and the depths of a tree given by the ports of parents.
-/
import Derived.Test.YtoebgfmnjjiddaaTreeS
import Derived.Test.YtoebgfmnjjiddaaIsNet
namespace Go.Proofs.Ytoebgfmnjjiddaa
open Go.ChangeShapes Go.WideShapes Go.ChangeAt Go.RowKit
set_option linter.unusedVariables false

theorem fidx_cases (p : Int → Bool) (zs : List Int) : (fidx p zs = -1 ∧ ∀ j, j < zs.length → p (nth zs j) = false) ∨ ∃ k : Nat, k < zs.length ∧ fidx p zs = k ∧ p (nth zs k) = true ∧ ∀ j, j < k → p (nth zs j) = false := by
  by_cases h : ∃ v, v < zs.length ∧ p (nth zs v) = true
  · right
    have : ∀ n, (∃ v, v < n ∧ v < zs.length ∧ p (nth zs v) = true) → ∃ v, v < zs.length ∧ p (nth zs v) = true ∧ ∀ j, j < v → p (nth zs j) = false := by
      intro n
      induction n with
      | zero => rintro ⟨v, hv, _⟩; omega
      | succ n ih =>
        rintro ⟨v, hv, hl, he⟩
        by_cases hh : ∃ u, u < n ∧ u < zs.length ∧ p (nth zs u) = true
        · exact ih hh
        · refine ⟨v, hl, he, fun j hj => ?_⟩
          rw [Bool.eq_false_iff]
          exact fun e => hh ⟨j, by omega, by omega, e⟩
    obtain ⟨v, hl, he⟩ := h
    obtain ⟨u, h1, h2, h3⟩ := this (v + 1) ⟨v, by omega, hl, he⟩
    exact ⟨u, h1, fidx_hit h1 h2 h3, h2, h3⟩
  · left
    have hn : ∀ j, j < zs.length → p (nth zs j) = false := fun j hj => by rw [Bool.eq_false_iff]; exact fun e => h ⟨j, hj, e⟩
    exact ⟨fidx_none hn, hn⟩
theorem idxOf_eq (zs : List Int) (x : Int) : Lib.idxOf zs x = fidx (fun y => y == x) zs := by
  rcases fidx_cases (fun y => y == x) zs with ⟨h1, h2⟩ | ⟨k, hk, h1, h2, h3⟩
  · rw [h1]
    have := Lib.idxOf_miss zs zs.length x (fun j hj => by have := h2 j hj; simpa [nth] using this)
    rwa [List.take_length] at this
  · rw [h1]
    have := Lib.idxOf_hit zs zs.length k x hk (Nat.le_refl _) (by simpa [nth] using h2) (fun j hj => by have := h3 j hj; simpa [nth] using this)
    rwa [List.take_length] at this
theorem index_any (v : Value) (zs : List Int) (x : Int) (lo hi : Nat) (w : World) (h : IntS w lo hi v zs) :
    Calls Try.prog 168 #[v, .int .i64 x] w fun e w' => e = .returned (.int .i64 (fidx (fun y => y == x) zs)) ∧ w = w' := by
  obtain ⟨A, c, rfl, hc1, hc2, hcell⟩ := h.form
  rw [← idxOf_eq]
  rcases Nat.eq_zero_or_pos zs.length with h0 | h0
  · obtain rfl : zs = [] := List.eq_nil_of_length_eq_zero h0
    refine (Try.slices_Index_int_empty _ _ _ _).mono ?_
    rintro e w' ⟨rfl, rfl⟩
    exact ⟨rfl, rfl⟩
  · obtain ⟨b, off, rfl, hb1, hb2, hcs⟩ := hcell h0
    unfold maxLen at hc2
    refine (Try.slices_Index_int b off zs.length c zs x w (Nat.le_refl _) (by omega) (fun j hj => (hcs j hj).1)).mono ?_
    rintro e w' ⟨rfl, rfl⟩
    rw [List.take_length]
    exact ⟨rfl, rfl⟩

end Go.Proofs.Ytoebgfmnjjiddaa
