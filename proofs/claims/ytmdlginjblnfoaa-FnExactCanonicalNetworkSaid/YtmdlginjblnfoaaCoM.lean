/-
  Memory of lists of components: rows of structs that hold two slices each. No condition on any program.
-/
import Derived.Test.YtmdlginjblnfoaaCoP
import Derived.Test.YtmdlginjblnfoaaFrame
import Derived.Test.YtmdlginjblnfoaaQuadP
namespace Go.Proofs.Ytmdlginjblnfoaa
open Go.ChangeShapes Go.WideShapes Go.ChangeAt Go.RowKit
set_option linter.unusedVariables false

/-- a component with the slices that hold its code and its walk -/
structure CmpV where
  vc : Value
  vw : Value
  c : CmpD
/-- its cells in the program and in the reference -/
def encI (x : CmpV) : List Value := [x.vc, x.vw, .int .i64 (x.c.least : Nat), .int .i64 (x.c.cnt : Nat)]
def encS (x : CmpV) : List Value := [x.vc, x.vw, .int .i64 (x.c.cnt : Nat)]
/-- its two slices lie in blocks from lo on and below hi -/
structure ElOk (w : World) (lo hi : Nat) (x : CmpV) : Prop where
  code : IntS w lo hi x.vc x.c.code
  walk : IntS w lo hi x.vw x.c.walk
theorem ElOk.far {w w' : World} {lo hi : Nat} {x : CmpV} {row : Option Nat} (h : ElOk w lo hi x) (hg : w.grownBy w' row) (hB : hi ≤ w.heap.size) (hr : ∀ g, row = some g → g < lo ∨ hi ≤ g) : ElOk w' lo hi x := ⟨IntS.far h.code hg hB hr, IntS.far h.walk hg hB hr⟩
/-- v is a row of components of the call's own: its block lies from base on and below top, and so do the blocks of the slices, which are others -/
structure CoS (enc : CmpV → List Value) (k : Nat) (w : World) (base top : Nat) (e : TypeId) (v : Value) (xs : List CmpV) : Prop where
  row : w.ownsRow base e k v xs.length (xs.flatMap enc)
  low : base ≤ top
  high : top ≤ w.heap.size
  own : ∀ g, v.ownBlock = some g → g < top
  el : ∀ x ∈ xs, ∃ lo hi, base ≤ lo ∧ hi ≤ top ∧ ElOk w lo hi x ∧ ∀ g, v.ownBlock = some g → g < lo ∨ hi ≤ g
section
variable {enc : CmpV → List Value} {k : Nat} {w w' : World} {base top : Nat} {e : TypeId} {v : Value} {xs : List CmpV}
theorem CoS.nil (enc : CmpV → List Value) (k : Nat) (w : World) (base : Nat) (e : TypeId) (h : base ≤ w.heap.size) : CoS enc k w base base e (.slice none 0 0) [] :=
  ⟨World.ownsRow_nil w base e k, Nat.le_refl _, h, (fun g h => by cases h), (fun x h => by cases h)⟩
theorem CoS.lt (h : CoS enc k w base top e v xs) : ∀ g, v.ownBlock = some g → base ≤ g ∧ g < top := fun g hg => ⟨(World.ownsRow.lt h.row g hg).1, h.own g hg⟩
theorem CoS.far {row : Option Nat} (h : CoS enc k w base top e v xs) (hg : w.grownBy w' row) (hr : ∀ g, row = some g → g < base ∨ top ≤ g) : CoS enc k w' base top e v xs := by
  refine ⟨World.ownsRow.kept h.row hg ?_, h.low, Nat.le_trans h.high hg.size, h.own, fun x hx => ?_⟩
  · cases hv : v.ownBlock with
    | none => exact .inl rfl
    | some g => right; intro e2; have := hr g e2.symm; have := h.lt g hv; omega
  · obtain ⟨lo, hi, a1, a2, a3, a4⟩ := h.el x hx
    exact ⟨lo, hi, a1, a2, a3.far hg (by have := h.high; omega) (fun g hg2 => by have := hr g hg2; omega), a4⟩
theorem CoS.still (h : CoS enc k w base top e v xs) (hg : w.grownBy w' none) : CoS enc k w' base top e v xs := h.far hg (fun g e => by cases e)
theorem CoS.mono (h : CoS enc k w base top e v xs) {top' : Nat} (h1 : top ≤ top') (h2 : top' ≤ w.heap.size) : CoS enc k w base top' e v xs :=
  ⟨h.row, Nat.le_trans h.low h1, h2, fun g hg => Nat.lt_of_lt_of_le (h.own g hg) h1, fun x hx => let ⟨lo, hi, a1, a2, a3⟩ := h.el x hx; ⟨lo, hi, a1, Nat.le_trans a2 h1, a3⟩⟩
theorem flat_len (hk : ∀ x, (enc x).length = k) : ∀ xs : List CmpV, (xs.flatMap enc).length = xs.length * k
  | [] => by simp
  | x :: xs => by rw [List.flatMap_cons, List.length_append, hk, flat_len hk xs, List.length_cons, Nat.succ_mul]; omega
theorem flat_get (hk : ∀ x, (enc x).length = k) : ∀ (xs : List CmpV) (j i : Nat) (hj : j < xs.length), i < k → (xs.flatMap enc)[j * k + i]? = (enc xs[j])[i]?
  | x :: xs, 0, i, _, hi => by
    rw [List.flatMap_cons, Nat.zero_mul, Nat.zero_add, List.getElem?_append_left (by rw [hk]; exact hi)]; rfl
  | x :: xs, j + 1, i, hj, hi => by
    rw [List.flatMap_cons, List.getElem?_append_right (by rw [hk, Nat.succ_mul]; omega), hk, show (j + 1) * k + i - k = j * k + i by rw [Nat.succ_mul]; omega]
    exact flat_get hk xs j i (by simpa using hj) hi
/-- what a cell holds -/
theorem CoS.cells (h : CoS enc k w base top e v xs) (hk : ∀ x, (enc x).length = k) (h0 : 0 < xs.length) (hk0 : 0 < k) : ∃ b c, v = .slice (some ⟨b, 0, none⟩) xs.length c ∧ xs.length ≤ c ∧ c ≤ 9223372036854775807 ∧ base ≤ b ∧ b < top ∧ ∀ j (hj : j < xs.length) i (u : Value), i < k → (enc xs[j])[i]? = some u → w.cell? ⟨b, j * k + i, none⟩ = some u ∧ w.frozen? ⟨b, j * k + i, none⟩ = false := by
  have hsl := Sl.of_own (f := fun j => (xs.flatMap enc).getD j undef) h.row (fun j hj => by
    rw [← flat_len hk] at hj; simp [List.getElem?_eq_getElem hj])
  obtain ⟨h1, h2⟩ := h.row
  rcases h2 with ⟨e1, e2⟩ | ⟨g, cap, cur, e1, hg, hh, hn, hm, hs, ht⟩
  · rw [e2] at h0; exact absurd h0 (Nat.lt_irrefl 0)
  · refine ⟨g, cap, e1, hn, hm, hg, h.own g (by rw [e1]; rfl), fun j hj i u hi hu => ?_⟩
    obtain ⟨A, c, e3, _, _, h3⟩ := hsl
    obtain ⟨b, off, e4, _, _, h4⟩ := h3 h0
    rw [e1] at e3
    injection e3 with e3 _ _
    rw [e4] at e3
    injection e3 with e3
    injection e3 with e3 e5 _
    subst e3 e5
    have hlt : j * k + i < xs.length * k := by
      have : (j + 1) * k ≤ xs.length * k := Nat.mul_le_mul_right k hj
      rw [Nat.succ_mul] at this; omega
    obtain ⟨a1, a2⟩ := h4 (j * k + i) hlt
    rw [Nat.zero_add] at a1 a2
    refine ⟨?_, a2⟩
    rw [a1]
    show some ((xs.flatMap enc).getD (j * k + i) undef) = _
    rw [List.getD_eq_getElem?_getD, flat_get hk xs j i hj hi, hu]; rfl
theorem CoS.len (h : CoS enc k w base top e v xs) : ∃ A c, v = .slice A xs.length c ∧ xs.length ≤ c ∧ c ≤ 9223372036854775807 := by
  obtain ⟨h1, h2⟩ := h.row
  rcases h2 with ⟨e1, e2⟩ | ⟨g, cap, cur, e1, hg, hh, hn, hm, hs, ht⟩
  · exact ⟨none, 0, by rw [e1, e2], by rw [e2]; exact Nat.le_refl 0, by omega⟩
  · exact ⟨_, _, e1, hn, hm⟩
/-- one more component -/
theorem CoS.push (h : CoS enc k w base top e v xs) {x : CmpV} {v' : Value} (hg : w.grownBy w' v.ownBlock) (hr : w'.ownsRow base e k v' (xs.length + 1) (xs.flatMap enc ++ enc x)) (hv : v'.ownBlock = v.ownBlock ∨ ∃ g, v'.ownBlock = some g ∧ w.heap.size ≤ g)
    {lo hi : Nat} (hx : ElOk w lo hi x) (h1 : top ≤ lo) (h2 : hi ≤ w.heap.size) (hlh : lo ≤ hi) : CoS enc k w' base w'.heap.size e v' (xs ++ [x]) := by
  have hs := hg.size
  have hlow := h.low
  have hhigh := h.high
  have hap : ∀ lo hi : Nat, hi ≤ w.heap.size → (∀ g, v.ownBlock = some g → g < lo ∨ hi ≤ g) → ∀ g, v'.ownBlock = some g → g < lo ∨ hi ≤ g := fun lo hi h1 h2 g hg2 => by
    rcases hv with e1 | ⟨g', e1, hg'⟩
    · exact h2 g (by rw [← e1]; exact hg2)
    · rw [e1] at hg2; injection hg2 with hg2; omega
  refine ⟨?_, by omega, Nat.le_refl _, fun g hg2 => (World.ownsRow.lt hr g hg2).2, fun y hy => ?_⟩
  · rw [List.length_append, List.flatMap_append]
    simpa using hr
  · rw [List.mem_append, List.mem_singleton] at hy
    rcases hy with hy | rfl
    · obtain ⟨lo', hi', a1, a2, a3, a4⟩ := h.el y hy
      exact ⟨lo', hi', a1, by omega, a3.far hg (by omega) a4, hap lo' hi' (by omega) a4⟩
    · have hold : ∀ g, v.ownBlock = some g → g < lo ∨ hi ≤ g := fun g hg2 => .inl (by have := h.own g hg2; omega)
      exact ⟨lo, hi, by omega, by omega, hx.far hg h2 hold, hap lo hi h2 hold⟩
end
end Go.Proofs.Ytmdlginjblnfoaa
