/-
  Contracts: is a network connected (program and reference).
-/
import Derived.Test.YtkobodoboeoaiaaConnP
import Derived.Test.YtkobodoboeoaiaaReg
import Derived.Test.YtkobodoboeoaiaaExt
import Derived.Test.YtkobodoboeoaiaaIsNet
import Derived.Test.YtkobodoboeoaiaaPut
import Derived.Test.YtkobodoboeoaiaaDistI
import Derived.Test.YtkobodoboeoaiaaNearP
namespace Go.Proofs.Ytkobodoboeoaiaa
open Go.ChangeShapes Go.WideShapes Go.ChangeAt Go.RowKit
set_option linter.unusedVariables false

theorem OwnI.one (w : World) (base : Nat) (e : TypeId) (x : Int) {g : Nat} (hg : w.heap.size = g) (hb : base ≤ g) : OwnI (w.alloc (.cells #[.int .i64 x] e)) base e (.slice (some ⟨g, 0, none⟩) 1 1) [x] := by
  subst hg
  refine ⟨by simp, .inr ⟨w.heap.size, 1, #[.int .i64 x], by simp, hb, heap_alloc_new w _, Nat.le_refl _, by unfold maxLen; omega, rfl, rfl⟩⟩
section
variable {P : Program} {md : Region.Mode} {ops : Array Oper} {Q : Exit → Act → World → Prop} {S : World → Prop} {T : List Nat}
theorem anyU_skip {i : Nat} {oi : Oper} {fuel : Nat} {listed : Array Bool} {a : Act} {w : World} (hi : ops[i]? = some oi)
    (hs : (Region.noSelect ops && waitsB md ops T listed i) = true) (hf : (Region.free md ops listed i && closedB md ops listed) = true) (hr : (Region.ready md ops listed).contains i = true)
    (hQ : ∀ c a w, Q (.panic c) (a.put oi.dst undef) w → Q (.panic c) a w) (hy : Region.wanted oi (yielded ops a.tmps) = false) (hS : S w)
    (h : anyU P md ops Q S T fuel (listed.setIfInBounds i true) (a.put oi.dst undef) w) : anyU P md ops Q S T (fuel + 1) listed a w := by
  rw [Bool.and_eq_true] at hs hf
  exact anyU_first hi (Region.noSelect_spec hs.1) hQ fuel listed a w (Region.free_spec hi hf.1) (closedB_is hf.2) hs.2 (by simpa using hr) (.inr ⟨hy, rfl⟩) hS h
end

end Go.Proofs.Ytkobodoboeoaiaa
