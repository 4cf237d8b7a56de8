/-
  Frames, in small: worlds that grow, blocks known whole. No condition on any program.
-/
import Derived.Test.YtlfdhhmccjkogaaSS
import Derived.Test.YtlfdhhmccjkogaaOwn
namespace Go.Proofs.Ytlfdhhmccjkogaa
open Go.RowKit
set_option linter.unusedVariables false

theorem ret_bb {a b c d : Bool} (h : a = b) (h2 : c = d) : Ending.returned (.tuple #[.bool a, .bool c]) = .returned (.tuple #[.bool b, .bool d]) := by rw [h, h2]
theorem nameL {P : Program} {ops : Array Oper} {Q : Exit → Act → World → Prop} {rest : List Oper} {a : Act} {w : World} (h : ∀ W, Hid (W = w) → wpList P ops Q rest a W) : wpList P ops Q rest a w := h w (Lib.hid rfl)
theorem nameC {P : Program} {c : Code} {Q : Exit → Act → World → Prop} {a : Act} {w : World} (h : ∀ W, Hid (W = w) → c.wp P Q a W) : c.wp P Q a w := h w (Lib.hid rfl)
theorem nameK {P : Program} {f : FuncId} {args : Array Value} {w : World} {Q : Ending → World → Prop} (h : ∀ W, Hid (W = w) → Calls P f args W Q) : Calls P f args w Q := h w (Lib.hid rfl)

section
variable {w w' : World}
theorem grown_below (h : Below w.heap.size w w') : w.grownBy w' none := ⟨h.os, h.tape, h.output, h.size, fun k hk _ => h.block k hk⟩
theorem grown_alloc (w : World) (o : Obj) : w.grownBy (w.alloc o) none := ⟨rfl, rfl, rfl, by simp, fun k hk _ => Below.heap_alloc _ _ _ hk⟩
theorem grown_set (w : World) (p : Addr) (u : Value) : w.grownBy (w.setCell p u) (some p.block) := grownBy_setCell (World.grownBy.refl _ _) rfl u
theorem grown_drewN (w : World) (n : Nat) : w.grownBy (w.drewN n) none := ⟨rfl, rfl, rfl, Nat.le_refl _, fun _ _ _ => rfl⟩
theorem grown_drew (w : World) : w.grownBy w.drew none := ⟨rfl, rfl, rfl, Nat.le_refl _, fun _ _ _ => rfl⟩
theorem grown_any {row : Option Nat} (h : w.grownBy w' none) : w.grownBy w' row := ⟨h.os, h.tape, h.output, h.size, fun k hk _ => h.block k hk (by simp)⟩
theorem grown_to_below (h : w.grownBy w' none) : Below w.heap.size w w' := ⟨h.os, h.tape, h.output, h.size, fun k hk => h.block k hk (by simp)⟩
theorem no_row (lo hi : Nat) : ∀ g : Nat, (none : Option Nat) = some g → g < lo ∨ hi ≤ g := fun _ h => by cases h
end


section
variable {w w' : World} {lo hi base : Nat} {v : Value} {row : Option Nat}
theorem IntS.far {zs : List Int} (h : IntS w lo hi v zs) (hg : w.grownBy w' row) (hB : hi ≤ w.heap.size) (hr : ∀ g, row = some g → g < lo ∨ hi ≤ g) : IntS w' lo hi v zs :=
  h.keep fun k h1 h2 => hg.block k (by omega) (fun e => by have := hr k e.symm; omega)
theorem OwnI.far {e : TypeId} {zs : List Int} (h : OwnI w base e v zs) (hg : w.grownBy w' row) (hr : ∀ g, row = some g → g < base ∨ v.ownBlock ≠ some g) : OwnI w' base e v zs :=
  h.kept hg (by
    rcases h.block with e1 | ⟨g, e1, h1, h2⟩
    · exact .inl e1
    · right; intro e2; rw [e1] at e2
      rcases hr g e2.symm with h3 | h3
      · omega
      · exact h3 e1)
theorem OwnI.still {e : TypeId} {zs : List Int} (h : OwnI w base e v zs) (hg : w.grownBy w' none) : OwnI w' base e v zs := h.far hg (fun g e => by cases e)
theorem IntS.still {zs : List Int} (h : IntS w lo hi v zs) (hg : w.grownBy w' none) (hB : hi ≤ w.heap.size) : IntS w' lo hi v zs := h.far hg hB (no_row _ _)

end
def BoxN (w : World) (g : Nat) (cs : Array Value) (t : TypeId) : Prop := w.heap[g]? = some (.cells cs t (0, 0))
section
variable {w w' A W : World} {g lo hi : Nat} {cs : Array Value} {t : TypeId} {row : Option Nat}
theorem BoxN.lt (h : BoxN w g cs t) : g < w.heap.size := (Array.getElem?_eq_some_iff.1 h).1
theorem BoxN.cell (h : BoxN w g cs t) (j : Nat) (hj : j < cs.size) : w.cell? ⟨g, j, none⟩ = some cs[j] := by
  rw [cell_of_row w g _ _ t (0, 0) h]; simp [hj]
theorem BoxN.frozen (h : BoxN w g cs t) (i : Nat) : w.frozen? ⟨g, i, none⟩ = false := by
  have h' : w.heap[g]? = some (.cells cs t (0, 0)) := h
  simp [World.frozen?, h']
theorem BoxN.far (h : BoxN w g cs t) (hg : w.grownBy w' row) (hr : ∀ k, row = some k → k ≠ g) : BoxN w' g cs t := (hg.block g h.lt (fun e => hr g e.symm rfl)).trans h
theorem BoxN.still (h : BoxN w g cs t) (hg : w.grownBy w' none) : BoxN w' g cs t := h.far hg (fun k e => by cases e)
theorem BoxN.below {B : Nat} (h : BoxN w g cs t) (hb : Below B w w') (hg : g < B) : BoxN w' g cs t := (hb.block g hg).trans h
theorem BoxN.new (w : World) (cs : Array Value) (t : TypeId) : BoxN (w.alloc (.cells cs t)) w.heap.size cs t := heap_alloc_new w _
theorem BoxN.new' (w : World) (cs : Array Value) (t : TypeId) {g : Nat} (hg : w.heap.size = g) : BoxN (w.alloc (.cells cs t)) g cs t := by subst hg; exact heap_alloc_new w _
theorem BoxN.set (h : BoxN w g cs t) (j : Nat) (u : Value) : BoxN (w.setCell ⟨g, j, none⟩ u) g (cs.setIfInBounds j u) t := by
  have h' : w.heap[g]? = some (.cells cs t (0, 0)) := h
  simp [BoxN, World.setCell, Array.getElem?_modify, h']
theorem Turned.boxN (h : Turned lo hi A W) (hb : BoxN A g cs t) (hg : g < lo ∨ hi ≤ g) : BoxN W g cs t := (h.block g hb.lt hg).trans hb
end

section
variable {w w' : World} {lo hi l2 h2 : Nat} {v : Value} {row : Option Nat}
theorem IntS.dims {zs : List Int} (h : IntS w lo hi v zs) : ∃ A c, v = .slice A zs.length c ∧ zs.length ≤ c ∧ c ≤ 9223372036854775807 := by
  obtain ⟨A, c, e, h1, h2, _⟩ := h; unfold maxLen at h2; exact ⟨A, c, e, h1, h2⟩

theorem IntS.opened {A : Option Addr} {n c : Nat} {zs : List Int} (h : IntS w lo hi (.slice A n c) zs) {j : Nat} (hj : j < zs.length) : ∃ b off, A = some ⟨b, off, none⟩ ∧ lo ≤ b ∧ b < hi ∧ w.cell? ⟨b, off + j, none⟩ = some (.int .i64 (nth zs j)) ∧ w.frozen? ⟨b, off + j, none⟩ = false := by
  obtain ⟨A', c', e, h1, h2, h3⟩ := h.form
  injection e with e1 e2 e3
  subst e1
  obtain ⟨b, off, e4, h4, h5, h6⟩ := h3 (by omega)
  exact ⟨b, off, e4, h4, h5, h6 j hj⟩
end

end Go.Proofs.Ytlfdhhmccjkogaa
