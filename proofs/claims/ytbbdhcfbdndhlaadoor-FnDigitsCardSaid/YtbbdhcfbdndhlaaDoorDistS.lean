/-
  Contracts of the reference's neNear and meFrom.
-/
import Derived.Test.YtbbdhcfbdndhlaaDoorDistP
import Derived.Test.YtbbdhcfbdndhlaaDoorRepeat
import Derived.Test.YtbbdhcfbdndhlaaDoorExt
import Derived.Deep.RegionHeld3
namespace Go.Proofs.YtbbdhcfbdndhlaaDoor
open Go.ChangeShapes Go.WideShapes Go.ChangeAt Go.RowKit
set_option linter.unusedVariables false

theorem Box3.grown {w w' : World} {g : Nat} {t : TypeId} {a b c : Value} {row : Option Nat} (h : Box3 w g t a b c) (hg : w.grownBy w' row) (hr : ∀ k, row = some k → k ≠ g) : Box3 w' g t a b c := (hg.block g h.lt (fun e => hr g e.symm rfl)).trans h
theorem IntS.of_row {w : World} {b n : Nat} {t : TypeId} {zs : List Int} (h : w.rowIs b t n (fun j => .int .i64 (nth zs j))) (hn : zs.length = n) (hm : n ≤ maxLen) : IntS w b (b + 1) (.slice (some ⟨b, 0, none⟩) n n) zs := by
  subst hn
  refine ⟨_, _, rfl, Nat.le_refl _, hm, fun hpos => ⟨b, 0, rfl, Nat.le_refl _, by omega, fun j hj => ?_⟩⟩
  rw [Nat.zero_add]
  exact ⟨h.cell (by omega), h.frozen j⟩

end Go.Proofs.YtbbdhcfbdndhlaaDoor
