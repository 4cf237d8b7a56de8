/-
  Several texts in one: Dec. No condition on any program.
-/
import Derived.Test.YtcmmklcampmkjaaBcE
import Derived.Test.YtcmmklcampmkjaaBcB

/- Decompositions as data and in memory: two slices of numbers. No condition on any program. -/
namespace Go.Proofs.Ytcmmklcampmkjaa
open Go.RowKit
set_option linter.unusedVariables false

/-- a decomposition as data -/
structure DecD where
  cluster : List Int
  colour : List Int
def DecD.sz (D : DecD) : Nat := D.cluster.length + D.colour.length
def DecD.cnt (D : DecD) : Nat := D.cluster.length + D.colour.length
structure DecD.Ok (D : DecD) : Prop where
  cluster : ∀ z ∈ D.cluster, I64 z
  colour : ∀ z ∈ D.colour, I64 z
theorem DecD.cnt_le (D : DecD) : D.cnt ≤ D.sz := Nat.le_refl _
/-- v is a decomposition in memory -/
def Dec (w : World) (lo hi : Nat) (v : Value) (D : DecD) : Prop := ∃ v1 v2, v = .agg #[v1, v2] ∧ IntS w lo hi v1 D.cluster ∧ IntS w lo hi v2 D.colour
/-- the same, its parts one behind the other -/
def DecX (w : World) (lo hi : Nat) (v : Value) (D : DecD) : Prop := ∃ v1 v2 m, v = .agg #[v1, v2] ∧ lo ≤ m ∧ m ≤ hi ∧ IntS w lo m v1 D.cluster ∧ IntS w m hi v2 D.colour
section
variable {w w' : World} {lo hi lo' hi' B l2 h2 : Nat} {v : Value} {D : DecD} {row : Option Nat}
theorem DecX.dec (h : DecX w lo hi v D) : Dec w lo hi v D := by
  obtain ⟨v1, v2, m, rfl, a1, a2, h1, h2⟩ := h
  exact ⟨v1, v2, rfl, h1.mono (Nat.le_refl _) a2, h2.mono a1 (Nat.le_refl _)⟩
theorem Dec.below (h : Dec w lo hi v D) (hb : Below B w w') (hB : hi ≤ B) : Dec w' lo hi v D := by
  obtain ⟨v1, v2, rfl, h1, h2⟩ := h
  exact ⟨v1, v2, rfl, h1.below hb hB, h2.below hb hB⟩
theorem Dec.turned (h : Dec w lo hi v D) (hb : Turned l2 h2 w w') (hB : hi ≤ w.heap.size) (hd : hi ≤ l2 ∨ h2 ≤ lo) : Dec w' lo hi v D := by
  obtain ⟨v1, v2, rfl, a, b⟩ := h
  exact ⟨v1, v2, rfl, a.turned hb hB hd, b.turned hb hB hd⟩
theorem Dec.mono (h : Dec w lo hi v D) (h1 : lo' ≤ lo) (h2 : hi ≤ hi') : Dec w lo' hi' v D := by
  obtain ⟨v1, v2, rfl, a, b⟩ := h
  exact ⟨v1, v2, rfl, a.mono h1 h2, b.mono h1 h2⟩
theorem Dec.far (h : Dec w lo hi v D) (hg : w.grownBy w' row) (hB : hi ≤ w.heap.size) (hr : ∀ g, row = some g → g < lo ∨ hi ≤ g) : Dec w' lo hi v D := by
  obtain ⟨v1, v2, rfl, a, b⟩ := h
  exact ⟨v1, v2, rfl, a.far hg hB hr, b.far hg hB hr⟩
theorem Dec.still (h : Dec w lo hi v D) (hg : w.grownBy w' none) (hB : hi ≤ w.heap.size) : Dec w' lo hi v D := h.far hg hB (no_row _ _)
theorem DecX.below (h : DecX w lo hi v D) (hb : Below B w w') (hB : hi ≤ B) : DecX w' lo hi v D := by
  obtain ⟨v1, v2, m, rfl, a1, a2, h1, h2⟩ := h
  exact ⟨v1, v2, m, rfl, a1, a2, h1.below hb (by omega), h2.below hb hB⟩
theorem DecX.turned (h : DecX w lo hi v D) (hb : Turned l2 h2 w w') (hB : hi ≤ w.heap.size) (hd : hi ≤ l2 ∨ h2 ≤ lo) : DecX w' lo hi v D := by
  obtain ⟨v1, v2, m, rfl, a1, a2, c1, c2⟩ := h
  exact ⟨v1, v2, m, rfl, a1, a2, c1.turned hb (by omega) (by omega), c2.turned hb (by omega) (by omega)⟩
theorem DecX.far (h : DecX w lo hi v D) (hg : w.grownBy w' row) (hB : hi ≤ w.heap.size) (hr : ∀ g, row = some g → g < lo ∨ hi ≤ g) : DecX w' lo hi v D := by
  obtain ⟨v1, v2, m, rfl, a1, a2, c1, c2⟩ := h
  exact ⟨v1, v2, m, rfl, a1, a2, c1.far hg (by omega) (fun g e => by have := hr g e; omega), c2.far hg hB (fun g e => by have := hr g e; omega)⟩
theorem DecX.still (h : DecX w lo hi v D) (hg : w.grownBy w' none) (hB : hi ≤ w.heap.size) : DecX w' lo hi v D := h.far hg hB (no_row _ _)
theorem Dec.parts (h : Dec w lo hi v D) : ∃ A c A2 c2, v = .agg #[.slice A D.cluster.length c, .slice A2 D.colour.length c2] ∧ (D.cluster.length ≤ c ∧ c ≤ 9223372036854775807) ∧ D.colour.length ≤ c2 ∧ c2 ≤ 9223372036854775807 := by
  obtain ⟨v1, v2, rfl, a, b⟩ := h
  obtain ⟨A, c, rfl, h1, h2⟩ := a.dims
  obtain ⟨A2, c2, rfl, h3, h4⟩ := b.dims
  exact ⟨A, c, A2, c2, rfl, ⟨h1, h2⟩, h3, h4⟩
end

end Go.Proofs.Ytcmmklcampmkjaa
