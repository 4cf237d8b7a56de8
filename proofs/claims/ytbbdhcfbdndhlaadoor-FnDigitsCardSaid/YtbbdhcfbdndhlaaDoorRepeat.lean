/-
  slices.Repeat of a list of one number.
-/
import Derived.Test.YtbbdhcfbdndhlaaDoorBase
import Derived.Test.YtbbdhcfbdndhlaaDoorShelf
import Derived.Laws.IdiomCopy
import Derived.Test.YtbbdhcfbdndhlaaDoorTreeP
namespace Go.Proofs.YtbbdhcfbdndhlaaDoor
open Go.ChangeShapes Go.WideShapes Go.ChangeAt Go.RowKit
set_option linter.unusedVariables false

theorem setCells_row {w : World} {g n : Nat} {t : TypeId} {f : Nat → Value} (h : w.rowIs g t n f) : ∀ (cs : List Value) (o : Nat), (w.setCells g o cs).rowIs g t n (fun j => if o ≤ j ∧ j < o + cs.length then cs.getD (j - o) undef else f j) := by
  intro cs
  induction cs generalizing w f with
  | nil => intro o; exact h.congr fun j hj => by rw [if_neg (by simp)]; 
  | cons x cs ih =>
    intro o
    have := ih (h.set o x) (o + 1)
    refine this.congr fun j hj => ?_
    by_cases e1 : j = o
    · subst e1; rw [if_neg (by omega), if_pos rfl, if_pos (by simp)]; simp
    · by_cases e2 : o + 1 ≤ j ∧ j < o + 1 + cs.length
      · rw [if_pos e2, if_pos (by rw [List.length_cons]; omega), show j - o = (j - (o + 1)) + 1 by omega]; rfl
      · rw [if_neg e2, if_neg e1, if_neg (by rw [List.length_cons]; omega)]
theorem below_setCells {B : Nat} {a w : World} (h : Below B a w) {g : Nat} (hg : B ≤ g) : ∀ (cs : List Value) (o : Nat), Below B a (w.setCells g o cs) := by
  intro cs
  induction cs generalizing w with
  | nil => intro o; exact h
  | cons x cs ih => intro o; exact ih (h.setCell (p := ⟨g, o, none⟩) hg x) (o + 1)

/-- a slice of one number, just laid -/
theorem IntS.one (w : World) (x : Int) (t : TypeId) {g : Nat} (hg : w.heap.size = g) : IntS (w.alloc (.cells #[.int .i64 x] t)) g (g + 1) (.slice (some ⟨g, 0, none⟩) 1 1) [x] := by
  subst hg
  refine ⟨_, 1, rfl, Nat.le_refl _, by unfold maxLen; omega, fun _ => ⟨w.heap.size, 0, rfl, Nat.le_refl _, by omega, fun j hj => ?_⟩⟩
  obtain rfl : j = 0 := by simp at hj; omega
  exact ⟨by rw [World.cell?_alloc_at _ _ _ _ rfl]; rfl, World.frozen?_alloc_at _ _ _ _ rfl⟩

end Go.Proofs.YtbbdhcfbdndhlaaDoor
