/-
  A made slice of slices whose rows the call owns and appends to. No condition on any program.
-/
import Derived.Test.YtcmmklcampmkjaaSSet2
import Derived.Test.YtcmmklcampmkjaaBoolS
namespace Go.Proofs.Ytcmmklcampmkjaa
open Go.RowKit
set_option linter.unusedVariables false

/-- block b holds a slice of slices; each row is the call's own, no two rows share a block -/
def Gro (w : World) (b : Nat) (e : TypeId) (xss : List (List Int)) : Prop :=
  ∃ vs : Nat → Value, Sl w b (b + 1) 1 (.slice (some ⟨b, 0, none⟩) xss.length xss.length) xss.length vs ∧ b < w.heap.size ∧
    (∀ i, i < xss.length → OwnI w (b + 1) e (vs i) (nthL xss i)) ∧ ∀ i j, i < xss.length → j < xss.length → i ≠ j → Apart (vs i) (vs j)
theorem Own_rowOf {w : World} {base : Nat} {e : TypeId} {v : Value} {zs : List Int} (h : OwnI w base e v zs) : rowOf zs.length v = none ∨ (rowOf zs.length v = v.ownBlock ∧ ∃ g, v.ownBlock = some g ∧ base ≤ g ∧ g < w.heap.size) := by
  unfold rowOf
  by_cases hz : zs.length = 0
  · exact .inl (if_pos hz)
  · rw [if_neg hz]
    rcases h.block with h1 | h1
    · exact .inl h1
    · exact .inr ⟨rfl, h1⟩
section
variable {w w' : World} {b : Nat} {e : TypeId} {xss : List (List Int)} {row : Option Nat}
theorem Gro.far (h : Gro w b e xss) (hg : w.grownBy w' row) (hr : ∀ g, row = some g → g < b) : Gro w' b e xss := by
  obtain ⟨vs, h1, h2, h3, h4⟩ := h
  refine ⟨vs, Sl.keep h1 fun k a1 a2 => hg.block k (by omega) (fun e => by have := hr k e.symm; omega), Nat.lt_of_lt_of_le h2 hg.size, fun i hi => (h3 i hi).far hg fun g e => .inl (by have := hr g e; omega), h4⟩
theorem Gro.still (h : Gro w b e xss) (hg : w.grownBy w' none) : Gro w' b e xss := h.far hg fun g e => by cases e
theorem Gro.made (w : World) (n : Nat) (t e : TypeId) {g : Nat} (hg : w.heap.size = g) (hn : n ≤ 1099511627776) : Gro (w.alloc (.cells (madeCells #[.slice none 0 0] n) t)) g e (List.replicate n []) := by
  subst hg
  have hr := World.rowIs_made w (.slice none 0 0) n t
  refine ⟨fun _ => .slice none 0 0, ?_, by simp, fun i hi => ?_, fun i j _ _ _ => Apart.nil_left _⟩
  · rw [List.length_replicate]
    have := Sl.of_row (lo := w.heap.size) (sz := 1) (n := n) (c := n) hr (Nat.le_refl _) (by omega) (Nat.le_refl _) (by unfold maxLen; omega)
    exact this.mono (Nat.le_refl _) (by simp)
  · have : nthL (List.replicate n ([] : List Int)) i = [] := by
      unfold nthL
      rw [List.length_replicate] at hi
      simp [hi]
    rw [this]
    exact OwnI.nil _ _ _
/-- one row, and what an append onto it with the store behind it leaves -/
theorem Gro.open_ (h : Gro w b e xss) {i : Nat} (hi : i < xss.length) :
    ∃ u, w.cell? ⟨b, i, none⟩ = some u ∧ w.frozen? ⟨b, i, none⟩ = false ∧ OwnI w (b + 1) e u (nthL xss i) ∧ b < w.heap.size ∧
      ∀ v' w' zs', OwnI w' (b + 1) e v' zs' → w.grownBy w' u.ownBlock → (v'.ownBlock = u.ownBlock ∨ v'.ownBlock = some (w.heap.size + 1)) → Gro (w'.setCell ⟨b, i, none⟩ v') b e (xss.set i zs') := by
  obtain ⟨vs, h1, h2, h3, h4⟩ := h
  have hat := h1.at_ (j := i) (by omega)
  rw [Nat.zero_add] at hat
  refine ⟨vs i, hat.1, hat.2, h3 i hi, h2, fun v' w' zs' ho hg hb => ?_⟩
  have hub : ∀ g, (vs i).ownBlock = some g → b + 1 ≤ g := fun g e => ((h3 i hi).lt g e).1
  have hs := hg.size
  have h1' : Sl w' b (b + 1) 1 (.slice (some ⟨b, 0, none⟩) xss.length xss.length) xss.length vs := Sl.keep h1 fun k a1 a2 => hg.block k (by omega) (fun e => by have := hub k e.symm; omega)
  have hset := h1'.set (j := i) (by omega) v'
  rw [Nat.zero_add] at hset
  have hgs : w'.grownBy (w'.setCell ⟨b, i, none⟩ v') (some b) := grown_set w' ⟨b, i, none⟩ _
  refine ⟨fun j => if j = i then v' else vs j, ?_, by rw [size_setCell]; omega, fun j hj => ?_, fun j k hj hk hjk => ?_⟩
  · rw [List.length_set]; exact hset
  · rw [List.length_set] at hj
    rw [nthL_set hi]
    dsimp only
    by_cases ej : j = i
    · rw [if_pos ej, if_pos ej]
      exact ho.far hgs fun g e => .inl (by injection e; omega)
    · rw [if_neg ej, if_neg ej]
      exact ((h3 j hj).kept hg (h4 j i hj hi ej).keeps).far hgs fun g e => .inl (by injection e; omega)
  · rw [List.length_set] at hj hk
    dsimp only
    by_cases ej : j = i
    · rw [if_pos ej, if_neg (by omega)]
      subst ej
      exact (Apart.grow (h4 k j hk hi (fun e => hjk e.symm)) (h3 k hk) (g := w.heap.size + 1) (by omega) hb).symm
    · rw [if_neg ej]
      by_cases ek : k = i
      · rw [if_pos ek]
        subst ek
        exact Apart.grow (h4 j k hj hi ej) (h3 j hj) (g := w.heap.size + 1) (by omega) hb
      · rw [if_neg ek]; exact h4 j k hj hk hjk
theorem Gro.ssx (h : Gro w b e xss) : IntSSx w b w.heap.size (.slice (some ⟨b, 0, none⟩) xss.length xss.length) xss := by
  obtain ⟨vs, h1, h2, h3, h4⟩ := h
  refine ⟨vs, h1.mono (Nat.le_refl _) (by omega), fun i hi => (h3 i hi).ints.mono (by omega) (Nat.le_refl _), fun i j hij hj => ?_, fun i hi => ?_⟩
  · rcases Own_rowOf (h3 i (by omega)) with e1 | ⟨e1, g, e2, _⟩
    · exact .inl e1
    · rcases Own_rowOf (h3 j hj) with f1 | ⟨f1, _⟩
      · right; rw [e1, e2, f1]; simp
      · rw [e1, f1]
        exact (h4 i j (by omega) hj (by omega)).keeps
  · rcases Own_rowOf (h3 i hi) with e1 | ⟨e1, g, e2, a1, a2⟩
    · exact .inl e1
    · right
      rw [e1, e2, rowOf_some (by omega)]
      intro e3; injection e3; omega
end

end Go.Proofs.Ytcmmklcampmkjaa
