/-
  Several texts in one: Mem, Ints, Own, SS, Open, Base, Ends, IntSS, Net, Good, TreeP, Queue, DistP, Ite, WkP, CoP, OwnSS, Repeat, Ext, DistS, Frame, CmL. No condition on any program.
-/
import Derived.Below
import Derived.Laws.OwnMore
import Derived.Deep.Draws
import Derived.Deep.OwnRows
import Derived.Laws.Rows
import Derived.Laws.AppendOwn
import Derived.Lib.Hide
import Derived.Deep.QuietTactic
import Derived.Test.YtbfjhehhpgcelaaRows
import Derived.WalkKit
import Derived.ProofKit
import Derived.Outline
import Derived.BigQuiet
import Derived.Maps.AppendAt
import Derived.Maps.OwnSet
import Derived.Maps.OwnOps
import Derived.Maps.Views
import Derived.OwnWalk
import Derived.Laws.NewBlocks
import Derived.OpenShut
import Derived.ChangeOld
import Derived.Shelf.Abstract
import Derived.Shelf.GgClosure.Gives
import Derived.Deep.RegionWith
import Derived.Laws.StructEq
import Derived.Test.YtbfjhehhpgcelaaShelf
import Derived.Deep.RegionHeld3
import Derived.IntWalk
import Derived.ArgAppend
import Derived.Laws.IdiomCopy
import Derived.Deep.Quiet

/- Words for memory, and lemmas on them: slices of integers that read as lists. No condition on any program; used by all proofs of this seat. -/
namespace Go.Proofs.Ytbfjhehhpgcelaa
open Go.RowKit

theorem ret_int {k : IntKind} {a b : Int} (h : a = b) : Ending.returned (.int k a) = .returned (.int k b) := by rw [h]
theorem ret_vb {r : Value} {c d : Bool} (h2 : c = d) : Ending.returned (.tuple #[r, .bool c]) = .returned (.tuple #[r, .bool d]) := by rw [h2]
theorem ret_bool {a b : Bool} (h : a = b) : Ending.returned (.bool a) = .returned (.bool b) := by rw [h]

/-- element i of a list of numbers; 0 past its end -/
def nth (zs : List Int) (i : Nat) : Int := zs.getD i 0
theorem nth_eq {zs : List Int} {i : Nat} (h : i < zs.length) : nth zs i = zs[i] := by simp [nth, h]
theorem nth_get? {zs : List Int} {i : Nat} (h : i < zs.length) : zs[i]? = some (nth zs i) := by simp [nth, h]
theorem nth_mem {zs : List Int} {i : Nat} (h : i < zs.length) : nth zs i ∈ zs := by rw [nth_eq h]; exact List.getElem_mem h
theorem nth_cons_succ (x : Int) (l : List Int) (i : Nat) : nth (x :: l) (i + 1) = nth l i := rfl
theorem nth_append_left {a b : List Int} {i : Nat} (h : i < a.length) : nth (a ++ b) i = nth a i := by simp [nth, List.getElem?_append_left h]
theorem nth_append_at (a : List Int) (x : Int) : nth (a ++ [x]) a.length = x := by simp [nth]
theorem ext_nth {a b : List Int} (hl : a.length = b.length) (h : ∀ i, i < a.length → nth a i = nth b i) : a = b := by
  apply List.ext_getElem hl
  intro i h1 h2
  have := h i h1
  rwa [nth_eq h1, nth_eq h2] at this

/-- the world w' is w but for blocks from lo on that lie below hi, and for new blocks -/
structure Turned (lo hi : Nat) (w w' : World) : Prop where
  os : w'.os = w.os
  tape : w'.tape = w.tape
  output : w'.output = w.output
  size : w.heap.size ≤ w'.heap.size
  block : ∀ k, k < w.heap.size → (k < lo ∨ hi ≤ k) → w'.heap[k]? = w.heap[k]?

theorem Turned.refl (lo hi : Nat) (w : World) : Turned lo hi w w := ⟨rfl, rfl, rfl, Nat.le_refl _, fun _ _ _ => rfl⟩
theorem Turned.trans {lo hi : Nat} {a b c : World} (h : Turned lo hi a b) (k : Turned lo hi b c) : Turned lo hi a c :=
  ⟨k.os.trans h.os, k.tape.trans h.tape, k.output.trans h.output, Nat.le_trans h.size k.size, fun i hi ho => (k.block i (Nat.lt_of_lt_of_le hi h.size) ho).trans (h.block i hi ho)⟩
theorem Turned.mono {lo hi lo' hi' : Nat} {w w' : World} (h : Turned lo hi w w') (h1 : lo' ≤ lo) (h2 : hi ≤ hi') : Turned lo' hi' w w' :=
  ⟨h.os, h.tape, h.output, h.size, fun i hi ho => h.block i hi (by omega)⟩
theorem Turned.below {lo hi : Nat} {w w' : World} (h : Turned lo hi w w') (h2 : lo ≤ w.heap.size) : Below lo w w' :=
  ⟨h.os, h.tape, h.output, h.size, fun i hi => h.block i (by omega) (.inl hi)⟩
theorem Turned.setCell {lo hi : Nat} {a w : World} (h : Turned lo hi a w) {p : Addr} (h1 : lo ≤ p.block) (h2 : p.block < hi) (u : Value) : Turned lo hi a (w.setCell p u) :=
  h.trans ⟨rfl, rfl, rfl, by simp [World.setCell], fun k hk ho => Below.heap_setCell _ _ _ _ (by omega)⟩
theorem Turned.drewN {lo hi : Nat} {a w : World} (h : Turned lo hi a w) (n : Nat) : Turned lo hi a (w.drewN n) := ⟨h.os, h.tape, h.output, h.size, h.block⟩
theorem below_drewN {B : Nat} {a w : World} (h : Below B a w) (n : Nat) : Below B a (w.drewN n) := ⟨h.os, h.tape, h.output, h.size, h.block⟩
/-- v is a slice of n elements of sz cells each; cell j holds f j and is not frozen; the cells lie in a block from lo on and below hi -/
def Sl (w : World) (lo hi sz : Nat) (v : Value) (n : Nat) (f : Nat → Value) : Prop :=
  ∃ A c, v = .slice A n c ∧ n ≤ c ∧ c ≤ maxLen ∧
    (0 < n → ∃ b off, A = some ⟨b, off, none⟩ ∧ lo ≤ b ∧ b < hi ∧ ∀ j, j < n * sz → w.cell? ⟨b, off + j, none⟩ = some (f j) ∧ w.frozen? ⟨b, off + j, none⟩ = false)

section
variable {w w' : World} {lo hi lo' hi' sz n : Nat} {v : Value} {f g : Nat → Value}
theorem Sl.keep (h : Sl w lo hi sz v n f) (hk : ∀ k, lo ≤ k → k < hi → w'.heap[k]? = w.heap[k]?) : Sl w' lo hi sz v n f := by
  obtain ⟨A, c, e, h1, h2, h3⟩ := h
  refine ⟨A, c, e, h1, h2, fun hn => ?_⟩
  obtain ⟨b, off, e2, h4, h5, h6⟩ := h3 hn
  refine ⟨b, off, e2, h4, h5, fun j hj => ?_⟩
  have hb := hk b h4 h5
  rw [World.cell?_of_block (w := w) (w' := w') (a := ⟨b, off + j, none⟩) hb, World.frozen?_of_block (w := w) (w' := w') (a := ⟨b, off + j, none⟩) hb]
  exact h6 j hj
theorem Sl.mono (h : Sl w lo hi sz v n f) (h1 : lo' ≤ lo) (h2 : hi ≤ hi') : Sl w lo' hi' sz v n f := by
  obtain ⟨A, c, e, h1', h2', h3⟩ := h
  refine ⟨A, c, e, h1', h2', fun hn => ?_⟩
  obtain ⟨b, off, e2, h4, h5, h6⟩ := h3 hn
  exact ⟨b, off, e2, by omega, by omega, h6⟩
theorem Sl.congr (h : Sl w lo hi sz v n f) (e : ∀ j, j < n * sz → f j = g j) : Sl w lo hi sz v n g := by
  obtain ⟨A, c, e1, h1, h2, h3⟩ := h
  refine ⟨A, c, e1, h1, h2, fun hn => ?_⟩
  obtain ⟨b, off, e2, h4, h5, h6⟩ := h3 hn
  exact ⟨b, off, e2, h4, h5, fun j hj => by rw [← e j hj]; exact h6 j hj⟩
theorem Sl.below {B : Nat} (h : Sl w lo hi sz v n f) (hb : Below B w w') (hB : hi ≤ B) : Sl w' lo hi sz v n f := h.keep fun k _ hk => hb.block k (by omega)
theorem Sl.turned {l2 h2 : Nat} (h : Sl w lo hi sz v n f) (hb : Turned l2 h2 w w') (hB : hi ≤ w.heap.size) (hd : hi ≤ l2 ∨ h2 ≤ lo) : Sl w' lo hi sz v n f :=
  h.keep fun k h1 h2 => hb.block k (by omega) (by omega)
theorem Sl.drewN (h : Sl w lo hi sz v n f) (k : Nat) : Sl (w.drewN k) lo hi sz v n f := h
theorem Sl.drew (h : Sl w lo hi sz v n f) : Sl w.drew lo hi sz v n f := h
theorem Sl.alloc (h : Sl w lo hi sz v n f) (hB : hi ≤ w.heap.size) (o : Obj) : Sl (w.alloc o) lo hi sz v n f := h.keep fun k _ hk => Below.heap_alloc _ _ _ (by omega)
theorem Sl.setCell (h : Sl w lo hi sz v n f) {p : Addr} (hp : p.block < lo ∨ hi ≤ p.block) (u : Value) : Sl (w.setCell p u) lo hi sz v n f := h.keep fun k h1 h2 => Below.heap_setCell _ _ _ _ (by omega)
theorem Sl.nil (w : World) (lo hi sz : Nat) (f : Nat → Value) : Sl w lo hi sz (.slice none 0 0) 0 f := ⟨none, 0, rfl, Nat.le_refl _, by simp, fun h => absurd h (by omega)⟩
theorem Sl.at_ {b off c j : Nat} (h : Sl w lo hi sz (.slice (some ⟨b, off, none⟩) n c) n f) (hj : j < n * sz) : w.cell? ⟨b, off + j, none⟩ = some (f j) ∧ w.frozen? ⟨b, off + j, none⟩ = false := by
  obtain ⟨A, c', e, h1, h2, h3⟩ := h
  obtain ⟨b', off', e2, h4, h5, h6⟩ := h3 (by rcases Nat.eq_zero_or_pos n with h0 | h0 <;> simp_all)
  subst e2
  injection e with e _ _
  injection e with e
  injection e with e1 e2
  subst e1 e2
  exact h6 j hj
theorem Sl.set {b off c j : Nat} (h : Sl w lo hi sz (.slice (some ⟨b, off, none⟩) n c) n f) (hj : j < n * sz) (u : Value) :
    Sl (w.setCell ⟨b, off + j, none⟩ u) lo hi sz (.slice (some ⟨b, off, none⟩) n c) n (fun i => if i = j then u else f i) := by
  have hat := h.at_ hj
  obtain ⟨A, c', e, h1, h2, h3⟩ := h
  refine ⟨A, c', e, h1, h2, fun hn => ?_⟩
  obtain ⟨b', off', e2, h4, h5, h6⟩ := h3 hn
  subst e2
  injection e with e _ _
  injection e with e
  injection e with e1 e2
  subst e1 e2
  refine ⟨b, off, rfl, h4, h5, fun i hi => ?_⟩
  obtain ⟨hc, hf⟩ := h6 i hi
  show _ = some (if i = j then u else f i) ∧ _
  by_cases hij : i = j
  · subst hij
    rw [if_pos rfl]
    exact ⟨World.cell?_setCell_same _ _ _ hc, by rw [World.frozen?_setCell]; exact hf⟩
  · rw [if_neg hij]
    refine ⟨?_, by rw [World.frozen?_setCell]; exact hf⟩
    rw [World.cell?_setCell_other _ _ _ _ (by intro e; injection e with _ e _; omega)]
    exact hc
/-- a row that the call owns -/
theorem Sl.of_own {base : Nat} {e : TypeId} {xs : List Value} (h : w.ownsRow base e sz v n xs) (hf : ∀ j, j < n * sz → xs[j]? = some (f j)) : Sl w base w.heap.size sz v n f := by
  obtain ⟨h1, h2⟩ := h
  rcases h2 with ⟨rfl, rfl⟩ | ⟨g, cap, cur, rfl, hg, hh, hn, hm, hs, ht⟩
  · exact Sl.nil _ _ _ _ _
  · refine ⟨_, _, rfl, hn, hm, fun hpos => ⟨g, 0, rfl, hg, ?_, fun j hj => ?_⟩⟩
    · obtain ⟨hlt, _⟩ := Array.getElem?_eq_some_iff.1 hh
      exact hlt
    · have h3 : xs[j]? = some (f j) := hf j hj
      rw [← ht, List.getElem?_take_of_lt hj] at h3
      rw [Nat.zero_add]
      refine ⟨?_, by simp [World.frozen?, hh]⟩
      rw [cell_of_row w g j cur e (0, 0) hh]
      simpa using h3
/-- a row known whole -/
theorem Sl.of_row {b : Nat} {t : TypeId} {m c : Nat} (h : w.rowIs b t m f) (hlo : lo ≤ b) (hn : n * sz ≤ m) (hc : n ≤ c) (hm : c ≤ maxLen) : Sl w lo w.heap.size sz (.slice (some ⟨b, 0, none⟩) n c) n f := by
  refine ⟨_, _, rfl, hc, hm, fun hpos => ⟨b, 0, rfl, hlo, h.lt, fun j hj => ?_⟩⟩
  rw [Nat.zero_add]
  exact ⟨h.cell (by omega), h.frozen j⟩
end

/-- the block that a slice's elements lie in, if it has any -/
def rowOf (n : Nat) (v : Value) : Option Nat := if n = 0 then none else v.ownBlock
theorem Sl.row {w : World} {lo hi sz n : Nat} {v : Value} {f : Nat → Value} (h : Sl w lo hi sz v n f) : rowOf n v = none ∨ ∃ b, rowOf n v = some b ∧ lo ≤ b ∧ b < hi := by
  obtain ⟨A, c, rfl, h1, h2, h3⟩ := h
  unfold rowOf
  by_cases hn : n = 0
  · exact .inl (if_pos hn)
  · obtain ⟨b, off, rfl, h4, h5, _⟩ := h3 (by omega)
    exact .inr ⟨b, by rw [if_neg hn]; rfl, h4, h5⟩
/-- a reading stays where another row is written -/
theorem Sl.grown {w w' : World} {lo hi sz n : Nat} {v : Value} {f : Nat → Value} {row : Option Nat} (h : Sl w lo hi sz v n f) (hg : w.grownBy w' row) (hB : hi ≤ w.heap.size) (hne : rowOf n v = none ∨ rowOf n v ≠ row) : Sl w' lo hi sz v n f := by
  obtain ⟨A, c, rfl, h1, h2, h3⟩ := h
  refine ⟨A, c, rfl, h1, h2, fun hn => ?_⟩
  obtain ⟨b, off, rfl, h4, h5, h6⟩ := h3 hn
  refine ⟨b, off, rfl, h4, h5, fun j hj => ?_⟩
  have hr : rowOf n (.slice (some ⟨b, off, none⟩) n c) = some b := by unfold rowOf; rw [if_neg (by omega)]; rfl
  have hb := hg.block b (by omega) (by rw [hr] at hne; rcases hne with h | h; · cases h
                                       · exact h)
  rw [World.cell?_of_block (w := w) (w' := w') (a := ⟨b, off + j, none⟩) hb, World.frozen?_of_block (w := w) (w' := w') (a := ⟨b, off + j, none⟩) hb]
  exact h6 j hj

theorem rowOf_some {b off n c : Nat} (hn : 0 < n) : rowOf n (.slice (some ⟨b, off, none⟩) n c) = some b := by unfold rowOf; rw [if_neg (by omega)]; rfl
theorem Turned.of_row {w w' : World} {lo hi sz n : Nat} {v : Value} {f : Nat → Value} (h : Sl w lo hi sz v n f) (hg : w.grownBy w' (rowOf n v)) : Turned lo hi w w' := by
  refine ⟨hg.os, hg.tape, hg.output, hg.size, fun k hk ho => hg.block k hk ?_⟩
  rcases h.row with e | ⟨b, e, h1, h2⟩
  · rw [e]; simp
  · rw [e]; intro e2; injection e2; omega
theorem grownBy_setCell {a w : World} {g : Nat} (h : a.grownBy w (some g)) {p : Addr} (hp : p.block = g) (u : Value) : a.grownBy (w.setCell p u) (some g) :=
  ⟨h.os, h.tape, h.output, by simpa [World.setCell] using h.size, fun i hi hne => (Below.heap_setCell w p u i (by rintro rfl; exact hne (by rw [hp]))).trans (h.block i hi hne)⟩
theorem grownBy_trans {a b c : World} {row : Option Nat} (h : a.grownBy b row) (k : b.grownBy c row) : a.grownBy c row :=
  ⟨k.os.trans h.os, k.tape.trans h.tape, k.output.trans h.output, Nat.le_trans h.size k.size, fun i hi ho => (k.block i (Nat.lt_of_lt_of_le hi h.size) ho).trans (h.block i hi ho)⟩

/-- v reads as the list of integers zs -/
def IntS (w : World) (lo hi : Nat) (v : Value) (zs : List Int) : Prop := Sl w lo hi 1 v zs.length fun j => .int .i64 (nth zs j)

section
variable {w w' : World} {lo hi lo' hi' : Nat} {v : Value} {zs : List Int}
theorem IntS.form (h : IntS w lo hi v zs) : ∃ A c, v = .slice A zs.length c ∧ zs.length ≤ c ∧ c ≤ maxLen ∧
    (0 < zs.length → ∃ b off, A = some ⟨b, off, none⟩ ∧ lo ≤ b ∧ b < hi ∧ ∀ j, j < zs.length → w.cell? ⟨b, off + j, none⟩ = some (.int .i64 (nth zs j)) ∧ w.frozen? ⟨b, off + j, none⟩ = false) := by
  obtain ⟨A, c, e, h1, h2, h3⟩ := h
  simp only [Nat.mul_one] at h3
  exact ⟨A, c, e, h1, h2, h3⟩
theorem IntS.mono (h : IntS w lo hi v zs) (h1 : lo' ≤ lo) (h2 : hi ≤ hi') : IntS w lo' hi' v zs := Sl.mono h h1 h2
theorem IntS.below {B : Nat} (h : IntS w lo hi v zs) (hb : Below B w w') (hB : hi ≤ B) : IntS w' lo hi v zs := Sl.below h hb hB
theorem IntS.turned {l2 h2 : Nat} (h : IntS w lo hi v zs) (hb : Turned l2 h2 w w') (hB : hi ≤ w.heap.size) (hd : hi ≤ l2 ∨ h2 ≤ lo) : IntS w' lo hi v zs := Sl.turned h hb hB hd
theorem IntS.alloc (h : IntS w lo hi v zs) (hB : hi ≤ w.heap.size) (o : Obj) : IntS (w.alloc o) lo hi v zs := Sl.alloc h hB o
theorem IntS.setCell (h : IntS w lo hi v zs) {p : Addr} (hp : p.block < lo ∨ hi ≤ p.block) (u : Value) : IntS (w.setCell p u) lo hi v zs := Sl.setCell h hp u
theorem IntS.nil (w : World) (lo hi : Nat) : IntS w lo hi (.slice none 0 0) [] := Sl.nil _ _ _ _ _
theorem IntS.of_own {base : Nat} {e : TypeId} (h : w.ownsRow base e 1 v zs.length (zs.map (Value.int .i64))) : IntS w base w.heap.size v zs :=
  Sl.of_own h fun j hj => by rw [List.getElem?_map, nth_get? (by omega)]; rfl
end

end Go.Proofs.Ytbfjhehhpgcelaa

/- Contracts of the laws' helpers on slices of integers: toIntS copies, eqIntS compares, markIntS writes running numbers, heldIntS finds them again. -/
namespace Go.Proofs.Ytbfjhehhpgcelaa
open Go.ChangeShapes Go.WideShapes Go.ChangeAt Go.RowKit
set_option linter.unusedVariables false

theorem Try.info3 : (Try.prog.info? 3).map (fun i => (i.zero, i.size, i.bytes)) = some (some (.int .i64 0), 1, 8) := by kernel_rfl

/-- the numbers that mark leaves: k, k+1, .. -/
def run (k : Int) : Nat → List Int
  | 0 => []
  | n + 1 => k :: run (k + 1) n
end Go.Proofs.Ytbfjhehhpgcelaa

/- Rows that a call owns and appends to, one cell an element; the law of an append of one element at the operation. No condition on any program; used by the walks of this seat. -/
namespace Go.Proofs.Ytbfjhehhpgcelaa
open Go.RowKit

/-- v is a slice whose row the call owns, from block base on; it holds the one-cell values xs -/
def Own (w : World) (base : Nat) (e : TypeId) (v : Value) (xs : List Value) : Prop := w.ownsRow base e 1 v xs.length xs

theorem Own.nil (w : World) (base : Nat) (e : TypeId) : Own w base e (.slice none 0 0) [] := World.ownsRow_nil w base e 1
section
variable {w w' : World} {base : Nat} {e : TypeId} {v : Value} {xs : List Value}
theorem Own.kept {row : Option Nat} (h : Own w base e v xs) (hg : w.grownBy w' row) (hne : v.ownBlock = none ∨ v.ownBlock ≠ row) : Own w' base e v xs := World.ownsRow.kept h hg hne
theorem Own.alloc (h : Own w base e v xs) (o : Obj) : Own (w.alloc o) base e v xs := World.ownsRow.alloc h o
theorem Own.lt (h : Own w base e v xs) : ∀ k, v.ownBlock = some k → base ≤ k ∧ k < w.heap.size := World.ownsRow.lt h
theorem Own.form (h : Own w base e v xs) : ∃ A c, v = .slice A xs.length c ∧ xs.length ≤ c ∧ c ≤ maxLen ∧
    (0 < xs.length → ∃ b, A = some ⟨b, 0, none⟩ ∧ base ≤ b ∧ b < w.heap.size ∧ ∀ j u, xs[j]? = some u → w.cell? ⟨b, j, none⟩ = some u ∧ w.frozen? ⟨b, j, none⟩ = false) := by
  obtain ⟨h1, h2⟩ := h
  rcases h2 with ⟨rfl, hn⟩ | ⟨g, cap, cur, rfl, hg, hh, hn, hm, hs, ht⟩
  · rw [hn]
    exact ⟨_, _, rfl, Nat.le_refl _, by simp, fun h => absurd h (by omega)⟩
  · refine ⟨_, _, rfl, hn, hm, fun hpos => ⟨g, rfl, hg, (Array.getElem?_eq_some_iff.1 hh).1, fun j u hu => ?_⟩⟩
    have hj : j < xs.length := (List.getElem?_eq_some_iff.1 hu).1
    refine ⟨?_, by simp [World.frozen?, hh]⟩
    rw [cell_of_row w g j cur e (0, 0) hh]
    rw [← ht, List.getElem?_take_of_lt (by omega)] at hu
    simpa using hu
theorem Own.block (h : Own w base e v xs) : v.ownBlock = none ∨ ∃ g, v.ownBlock = some g ∧ base ≤ g ∧ g < w.heap.size := by
  cases hv : v.ownBlock with
  | none => exact .inl rfl
  | some g => exact .inr ⟨g, rfl, h.lt g hv⟩
end

/-- append of one element onto a row of the call's own, the element just laid in a block of its own -/
theorem append1 {P : Program} {ops : Array Oper} {rest : List Oper} {o : Oper} {a : Act} {Q : Exit → Act → World → Prop} {t e : TypeId} {z : Value} {bytes : Nat}
    (ht : P.underlying t = some (.slice e)) (hinfo : (P.info? e).map (fun i => (i.zero, i.size, i.bytes)) = some (some z, 1, bytes)) (hz1 : z.cells.size = 1) (hby : bytes ≤ 64)
    (w : World) (hgd : o.guard = none) {s : Operand} (x : Operand) (ho : o.op = .call { callee := .builtin .append, args := #[s, x], argTypes := #[t, t] })
    {base : Nat} {v : Value} {xs : List Value} (hown : Own w base e v xs) (u : Value) (te : TypeId) (hs : a.eval s = v) (hx : a.eval x = .slice (some ⟨w.heap.size, 0, none⟩) 1 1)
    (hu : u.oneCell' = true) (hlen : xs.length < 1099511627776) (hbase : base ≤ w.heap.size)
    (h : ∀ v' w', Own w' base e v' (xs ++ [u]) → w.grownBy w' v.ownBlock → (v'.ownBlock = v.ownBlock ∨ v'.ownBlock = some (w.heap.size + 1)) → wpList P ops Q rest (a.put o.dst v') w') :
    wpList P ops Q (o :: rest) a (w.alloc (.cells #[u] te)) := by
  obtain ⟨i, hi, hzz⟩ := Option.map_eq_some_iff.1 hinfo
  simp only [Prod.mk.injEq] at hzz
  obtain ⟨hz, hsz, hb⟩ := hzz
  refine wpList_append_own_at (w.alloc (.cells #[u] te)) hgd s x t ho base e i z 1 bytes ht hi hz hsz hb hz1 (by omega) v xs.length xs hs (World.ownsRow.alloc hown _) ⟨w.heap.size, 0, none⟩ 1 1 [u] hx rfl ?_ ?_ ?_ ?_ ?_ ?_
  · intro j u' hj
    match j, hj with
    | 0, hj =>
      simp only [List.getElem?_cons_zero, Option.some.injEq] at hj
      subst hj
      rw [show (⟨w.heap.size, 0, none⟩ : Addr).add 0 = ⟨w.heap.size, 0, none⟩ from rfl, World.cell?_alloc_at _ _ _ _ rfl]
      rfl
  · intro u' hu'
    simp only [List.mem_singleton] at hu'
    subst hu'
    exact hu
  · unfold maxLen; omega
  · have : (xs.length + 1) * bytes ≤ 1099511627776 * 64 := Nat.mul_le_mul (by omega) hby
    omega
  · simp; omega
  · intro v' w' h1 h2 _ h4
    refine h v' w' (by simpa [Own] using h1) ?_ (by simpa using h4)
    exact ⟨h2.os, h2.tape, h2.output, Nat.le_trans (by simp) h2.size, fun k hk hne => (h2.block k (by simp; omega) hne).trans (Below.heap_alloc _ _ _ hk)⟩

/-- rows of integers -/
def OwnI (w : World) (base : Nat) (e : TypeId) (v : Value) (zs : List Int) : Prop := Own w base e v (zs.map (Value.int .i64))
section
variable {w w' : World} {base : Nat} {e : TypeId} {v : Value} {zs : List Int}
theorem OwnI.nil (w : World) (base : Nat) (e : TypeId) : OwnI w base e (.slice none 0 0) [] := Own.nil w base e
theorem OwnI.kept {row : Option Nat} (h : OwnI w base e v zs) (hg : w.grownBy w' row) (hne : v.ownBlock = none ∨ v.ownBlock ≠ row) : OwnI w' base e v zs := Own.kept h hg hne
theorem OwnI.block (h : OwnI w base e v zs) : v.ownBlock = none ∨ ∃ g, v.ownBlock = some g ∧ base ≤ g ∧ g < w.heap.size := Own.block h
theorem OwnI.ints (h : OwnI w base e v zs) : IntS w base w.heap.size v zs := IntS.of_own (by simpa [OwnI, Own] using h)
theorem OwnI.lt (h : OwnI w base e v zs) : ∀ k, v.ownBlock = some k → base ≤ k ∧ k < w.heap.size := World.ownsRow.lt h
theorem OwnI.drewN (h : OwnI w base e v zs) (k : Nat) : OwnI (w.drewN k) base e v zs := h
end

theorem append_int {P : Program} {ops : Array Oper} {rest : List Oper} {o : Oper} {a : Act} {Q : Exit → Act → World → Prop} {t e : TypeId} {bytes : Nat}
    (ht : P.underlying t = some (.slice e)) (hinfo : (P.info? e).map (fun i => (i.zero, i.size, i.bytes)) = some (some (.int .i64 0), 1, bytes)) (hby : bytes ≤ 64)
    (w : World) (hgd : o.guard = none) {s : Operand} (x : Operand) (ho : o.op = .call { callee := .builtin .append, args := #[s, x], argTypes := #[t, t] })
    {base : Nat} {v : Value} {zs : List Int} (hown : OwnI w base e v zs) (z : Int) (te : TypeId) (hs : a.eval s = v) (hx : a.eval x = .slice (some ⟨w.heap.size, 0, none⟩) 1 1)
    (hlen : zs.length < 1099511627776) (hbase : base ≤ w.heap.size)
    (h : ∀ v' w', OwnI w' base e v' (zs ++ [z]) → w.grownBy w' v.ownBlock → (v'.ownBlock = v.ownBlock ∨ v'.ownBlock = some (w.heap.size + 1)) → wpList P ops Q rest (a.put o.dst v') w') :
    wpList P ops Q (o :: rest) a (w.alloc (.cells #[.int .i64 z] te)) :=
  append1 ht hinfo rfl hby w hgd x ho hown (.int .i64 z) te hs hx rfl (by simpa using hlen) hbase fun v' w' h1 h2 h3 => h v' w' (by unfold OwnI; simpa using h1) h2 h3

/-- two slices whose rows do not share a block -/
def Apart (v1 v2 : Value) : Prop := v1.ownBlock = none ∨ v2.ownBlock = none ∨ v1.ownBlock ≠ v2.ownBlock
theorem Apart.symm {v1 v2 : Value} (h : Apart v1 v2) : Apart v2 v1 := by
  rcases h with h | h | h
  · exact .inr (.inl h)
  · exact .inl h
  · exact .inr (.inr fun e => h e.symm)
/-- a map whose reading answers as the function f does, with n keys -/
structure LMap (D : DataW Unit) (f : Lit → Option Int) (n : Nat) : Prop where
  tidy : Maps.Tidy D
  size : Maps.size D = n
  has : ∀ k, WideAt.IsKeyLit k → Maps.has D k = (f k).isSome
  at_ : ∀ k, WideAt.IsKeyLit k → D.atKey k (.lit (.int .i64 0)) = .lit (.int .i64 ((f k).getD 0))

theorem LMap.empty : LMap (.map []) (fun _ => none) 0 := ⟨Maps.tidy_empty, rfl, fun _ _ => rfl, fun _ _ => rfl⟩
theorem LMap.put {D : DataW Unit} {f g : Lit → Option Int} {n m : Nat} (h : LMap D f n) {k : Lit} (hk : WideAt.IsKeyLit k) (v : Int) (h1 : g k = some v) (h2 : ∀ x, x ≠ k → g x = f x) (hm : m = if (f k).isSome then n else n + 1) :
    LMap (D.put k (.lit (.int .i64 v))) g m := by
  subst hm
  refine ⟨h.tidy.put hk _, ?_, fun x hx => ?_, fun x hx => ?_⟩
  · rw [Maps.size_put h.tidy, h.has k hk, h.size]
  · by_cases e : x = k
    · subst e; rw [Maps.has_put_same h.tidy.isMap hk, h1]; rfl
    · rw [Maps.has_put_other e, h.has x hx, h2 x e]
  · by_cases e : x = k
    · subst e; rw [Maps.atKey_put_same h.tidy.isMap hk, h1]; rfl
    · rw [Maps.atKey_put_other e, h.at_ x hx, h2 x e]
theorem LMap.congr {D : DataW Unit} {f g : Lit → Option Int} {n m : Nat} (h : LMap D f n) (e : ∀ k, f k = g k) (hn : n = m) : LMap D g m := by
  obtain rfl : f = g := funext e
  subst hn
  exact h

end Go.Proofs.Ytbfjhehhpgcelaa

/- Words for memory, continued: slices of pairs (ends), slices of slices, networks; kept over new blocks and over writes elsewhere. No condition on any program. -/
namespace Go.Proofs.Ytbfjhehhpgcelaa
open Go.RowKit

/-- element i of a list of lists; the empty list past its end -/
def nthL {α : Type} (l : List (List α)) (i : Nat) : List α := l.getD i []
theorem nthL_eq {α : Type} {l : List (List α)} {i : Nat} (h : i < l.length) : nthL l i = l[i] := by simp [nthL, h]
theorem nthL_mem {α : Type} {l : List (List α)} {i : Nat} (h : i < l.length) : nthL l i ∈ l := by rw [nthL_eq h]; exact List.getElem_mem h
/-- element i of a list of pairs -/
def nthE (l : List (Int × Int)) (i : Nat) : Int × Int := l.getD i (0, 0)
/-- the cells of a row of pairs -/
def endCell (es : List (Int × Int)) (j : Nat) : Value := .int .i64 (if j % 2 = 0 then (nthE es (j / 2)).1 else (nthE es (j / 2)).2)
theorem endCell_fst (es : List (Int × Int)) (k : Nat) : endCell es (k * 2) = .int .i64 (nthE es k).1 := by
  unfold endCell; rw [if_pos (by omega), show k * 2 / 2 = k by omega]
theorem endCell_snd (es : List (Int × Int)) (k : Nat) : endCell es (k * 2 + 1) = .int .i64 (nthE es k).2 := by
  unfold endCell; rw [if_neg (by omega), show (k * 2 + 1) / 2 = k by omega]

/-- v reads as the list of pairs es -/
def EndS (w : World) (lo hi : Nat) (v : Value) (es : List (Int × Int)) : Prop := Sl w lo hi 2 v es.length (endCell es)

section
variable {w w' : World} {lo hi lo' hi' : Nat} {v : Value} {es : List (Int × Int)}
theorem EndS.form (h : EndS w lo hi v es) : ∃ A c, v = .slice A es.length c ∧ es.length ≤ c ∧ c ≤ maxLen ∧
    (0 < es.length → ∃ b off, A = some ⟨b, off, none⟩ ∧ lo ≤ b ∧ b < hi ∧ ∀ k, k < es.length → w.cell? ⟨b, off + k * 2, none⟩ = some (.int .i64 (nthE es k).1) ∧ w.cell? ⟨b, off + k * 2 + 1, none⟩ = some (.int .i64 (nthE es k).2)) := by
  obtain ⟨A, c, e, h1, h2, h3⟩ := h
  refine ⟨A, c, e, h1, h2, fun hn => ?_⟩
  obtain ⟨b, off, e2, h4, h5, h6⟩ := h3 hn
  refine ⟨b, off, e2, h4, h5, fun k hk => ⟨?_, ?_⟩⟩
  · rw [← endCell_fst]; exact (h6 (k * 2) (by omega)).1
  · rw [← endCell_snd, Nat.add_assoc]; exact (h6 (k * 2 + 1) (by omega)).1
theorem EndS.mono (h : EndS w lo hi v es) (h1 : lo' ≤ lo) (h2 : hi ≤ hi') : EndS w lo' hi' v es := Sl.mono h h1 h2
theorem EndS.below {B : Nat} (h : EndS w lo hi v es) (hb : Below B w w') (hB : hi ≤ B) : EndS w' lo hi v es := Sl.below h hb hB
theorem EndS.keep (h : EndS w lo hi v es) (hk : ∀ k, lo ≤ k → k < hi → w'.heap[k]? = w.heap[k]?) : EndS w' lo hi v es := Sl.keep h hk
theorem EndS.turned {l2 h2 : Nat} (h : EndS w lo hi v es) (hb : Turned l2 h2 w w') (hB : hi ≤ w.heap.size) (hd : hi ≤ l2 ∨ h2 ≤ lo) : EndS w' lo hi v es := Sl.turned h hb hB hd
theorem EndS.setCell (h : EndS w lo hi v es) {p : Addr} (hp : p.block < lo ∨ hi ≤ p.block) (u : Value) : EndS (w.setCell p u) lo hi v es := Sl.setCell h hp u
theorem EndS.nil (w : World) (lo hi : Nat) : EndS w lo hi (.slice none 0 0) [] := Sl.nil _ _ _ _ _
end

/-- a slice of slices: element i is the slice vs i, which reads (by R) as xss i -/
def SS {α : Type} (R : World → Nat → Nat → Value → List α → Prop) (w : World) (lo hi : Nat) (v : Value) (xss : List (List α)) : Prop :=
  ∃ vs : Nat → Value, Sl w lo hi 1 v xss.length vs ∧ ∀ i, i < xss.length → R w lo hi (vs i) (nthL xss i)
/-- the same, and no two of its rows share a block -/
def SSx {α : Type} (R : World → Nat → Nat → Value → List α → Prop) (w : World) (lo hi : Nat) (v : Value) (xss : List (List α)) : Prop :=
  ∃ vs : Nat → Value, Sl w lo hi 1 v xss.length vs ∧ (∀ i, i < xss.length → R w lo hi (vs i) (nthL xss i)) ∧
    (∀ i j, i < j → j < xss.length → rowOf (nthL xss i).length (vs i) = none ∨ rowOf (nthL xss i).length (vs i) ≠ rowOf (nthL xss j).length (vs j)) ∧
    (∀ i, i < xss.length → rowOf (nthL xss i).length (vs i) = none ∨ rowOf (nthL xss i).length (vs i) ≠ rowOf xss.length v)
theorem SSx.ss {α : Type} {R : World → Nat → Nat → Value → List α → Prop} {w : World} {lo hi : Nat} {v : Value} {xss : List (List α)} (h : SSx R w lo hi v xss) : SS R w lo hi v xss :=
  let ⟨vs, h1, h2, _, _⟩ := h; ⟨vs, h1, h2⟩

section
variable {α : Type} {R : World → Nat → Nat → Value → List α → Prop} {w w' : World} {lo hi lo' hi' : Nat} {v : Value} {xss : List (List α)}
theorem SS.keep (hR : ∀ {v xs}, R w lo hi v xs → R w' lo hi v xs) (h : SS R w lo hi v xss) (hk : ∀ k, lo ≤ k → k < hi → w'.heap[k]? = w.heap[k]?) : SS R w' lo hi v xss := by
  obtain ⟨vs, h1, h2⟩ := h
  exact ⟨vs, h1.keep hk, fun i hi => hR (h2 i hi)⟩
theorem SSx.keep (hR : ∀ {v xs}, R w lo hi v xs → R w' lo hi v xs) (h : SSx R w lo hi v xss) (hk : ∀ k, lo ≤ k → k < hi → w'.heap[k]? = w.heap[k]?) : SSx R w' lo hi v xss := by
  obtain ⟨vs, h1, h2, h3, h4⟩ := h
  exact ⟨vs, h1.keep hk, fun i hi => hR (h2 i hi), h3, h4⟩
theorem SS.mono (hR : ∀ {v xs}, R w lo hi v xs → R w lo' hi' v xs) (h : SS R w lo hi v xss) (h1 : lo' ≤ lo) (h2 : hi ≤ hi') : SS R w lo' hi' v xss := by
  obtain ⟨vs, h3, h4⟩ := h
  exact ⟨vs, h3.mono h1 h2, fun i hi => hR (h4 i hi)⟩
theorem SSx.mono (hR : ∀ {v xs}, R w lo hi v xs → R w lo' hi' v xs) (h : SSx R w lo hi v xss) (h1 : lo' ≤ lo) (h2 : hi ≤ hi') : SSx R w lo' hi' v xss := by
  obtain ⟨vs, h3, h4, h5, h6⟩ := h
  exact ⟨vs, h3.mono h1 h2, fun i hi => hR (h4 i hi), h5, h6⟩
theorem SS.form (h : SS R w lo hi v xss) : ∃ A c, v = .slice A xss.length c ∧ xss.length ≤ c ∧ c ≤ maxLen ∧
    (0 < xss.length → ∃ b off, A = some ⟨b, off, none⟩ ∧ lo ≤ b ∧ b < hi ∧ ∀ k, k < xss.length → ∃ u, w.cell? ⟨b, off + k, none⟩ = some u ∧ R w lo hi u (nthL xss k)) := by
  obtain ⟨vs, ⟨A, c, e, h1, h2, h3⟩, h4⟩ := h
  refine ⟨A, c, e, h1, h2, fun hn => ?_⟩
  obtain ⟨b, off, e2, h5, h6, h7⟩ := h3 hn
  exact ⟨b, off, e2, h5, h6, fun k hk => ⟨vs k, (h7 k (by omega)).1, h4 k hk⟩⟩
theorem SS.nil (w : World) (lo hi : Nat) : SS R w lo hi (.slice none 0 0) [] := ⟨fun _ => undef, Sl.nil _ _ _ _ _, fun i hi => absurd hi (by simp)⟩
theorem SSx.nil (w : World) (lo hi : Nat) : SSx R w lo hi (.slice none 0 0) [] := ⟨fun _ => undef, Sl.nil _ _ _ _ _, fun i hi => absurd hi (by simp), fun i j _ hj => absurd hj (by simp), fun i hi => absurd hi (by simp)⟩
end

abbrev IntSS := SS IntS
abbrev IntSSx := SSx IntS
abbrev EndSS := SS EndS
abbrev EndSSx := SSx EndS
section
variable {w w' : World} {lo hi lo' hi' B l2 h2 : Nat} {v : Value} {xss : List (List Int)} {ess : List (List (Int × Int))}
theorem IntS.keep {zs : List Int} (h : IntS w lo hi v zs) (hk : ∀ k, lo ≤ k → k < hi → w'.heap[k]? = w.heap[k]?) : IntS w' lo hi v zs := Sl.keep h hk
theorem ISS.below (h : IntSS w lo hi v xss) (hb : Below B w w') (hB : hi ≤ B) : IntSS w' lo hi v xss := SS.keep (fun h => IntS.below h hb hB) h fun k _ hk => hb.block k (by omega)
theorem ISSx.below (h : IntSSx w lo hi v xss) (hb : Below B w w') (hB : hi ≤ B) : IntSSx w' lo hi v xss := SSx.keep (fun h => IntS.below h hb hB) h fun k _ hk => hb.block k (by omega)
theorem ESS.below (h : EndSS w lo hi v ess) (hb : Below B w w') (hB : hi ≤ B) : EndSS w' lo hi v ess := SS.keep (fun h => EndS.below h hb hB) h fun k _ hk => hb.block k (by omega)
theorem ESSx.below (h : EndSSx w lo hi v ess) (hb : Below B w w') (hB : hi ≤ B) : EndSSx w' lo hi v ess := SSx.keep (fun h => EndS.below h hb hB) h fun k _ hk => hb.block k (by omega)
theorem ISS.turned (h : IntSS w lo hi v xss) (hb : Turned l2 h2 w w') (hB : hi ≤ w.heap.size) (hd : hi ≤ l2 ∨ h2 ≤ lo) : IntSS w' lo hi v xss := SS.keep (fun h => IntS.turned h hb hB hd) h fun k h1 hk => hb.block k (by omega) (by omega)
theorem ISSx.turned (h : IntSSx w lo hi v xss) (hb : Turned l2 h2 w w') (hB : hi ≤ w.heap.size) (hd : hi ≤ l2 ∨ h2 ≤ lo) : IntSSx w' lo hi v xss := SSx.keep (fun h => IntS.turned h hb hB hd) h fun k h1 hk => hb.block k (by omega) (by omega)
theorem ESS.turned (h : EndSS w lo hi v ess) (hb : Turned l2 h2 w w') (hB : hi ≤ w.heap.size) (hd : hi ≤ l2 ∨ h2 ≤ lo) : EndSS w' lo hi v ess := SS.keep (fun h => EndS.turned h hb hB hd) h fun k h1 hk => hb.block k (by omega) (by omega)
theorem ESSx.turned (h : EndSSx w lo hi v ess) (hb : Turned l2 h2 w w') (hB : hi ≤ w.heap.size) (hd : hi ≤ l2 ∨ h2 ≤ lo) : EndSSx w' lo hi v ess := SSx.keep (fun h => EndS.turned h hb hB hd) h fun k h1 hk => hb.block k (by omega) (by omega)
theorem ISS.setCell (h : IntSS w lo hi v xss) {p : Addr} (hp : p.block < lo ∨ hi ≤ p.block) (u : Value) : IntSS (w.setCell p u) lo hi v xss := SS.keep (fun h => IntS.setCell h hp u) h fun k h1 h2 => Below.heap_setCell _ _ _ _ (by omega)
theorem ISSx.setCell (h : IntSSx w lo hi v xss) {p : Addr} (hp : p.block < lo ∨ hi ≤ p.block) (u : Value) : IntSSx (w.setCell p u) lo hi v xss := SSx.keep (fun h => IntS.setCell h hp u) h fun k h1 h2 => Below.heap_setCell _ _ _ _ (by omega)
theorem ESS.setCell (h : EndSS w lo hi v ess) {p : Addr} (hp : p.block < lo ∨ hi ≤ p.block) (u : Value) : EndSS (w.setCell p u) lo hi v ess := SS.keep (fun h => EndS.setCell h hp u) h fun k h1 h2 => Below.heap_setCell _ _ _ _ (by omega)
theorem ESSx.setCell (h : EndSSx w lo hi v ess) {p : Addr} (hp : p.block < lo ∨ hi ≤ p.block) (u : Value) : EndSSx (w.setCell p u) lo hi v ess := SSx.keep (fun h => EndS.setCell h hp u) h fun k h1 h2 => Below.heap_setCell _ _ _ _ (by omega)
theorem ISS.mono (h : IntSS w lo hi v xss) (h1 : lo' ≤ lo) (h2 : hi ≤ hi') : IntSS w lo' hi' v xss := SS.mono (fun h => IntS.mono h h1 h2) h h1 h2
theorem ISSx.mono (h : IntSSx w lo hi v xss) (h1 : lo' ≤ lo) (h2 : hi ≤ hi') : IntSSx w lo' hi' v xss := SSx.mono (fun h => IntS.mono h h1 h2) h h1 h2
theorem ESS.mono (h : EndSS w lo hi v ess) (h1 : lo' ≤ lo) (h2 : hi ≤ hi') : EndSS w lo' hi' v ess := SS.mono (fun h => EndS.mono h h1 h2) h h1 h2
theorem ESSx.mono (h : EndSSx w lo hi v ess) (h1 : lo' ≤ lo) (h2 : hi ≤ hi') : EndSSx w lo' hi' v ess := SSx.mono (fun h => EndS.mono h h1 h2) h h1 h2
end

theorem IntS.shape {w : World} {lo hi : Nat} {v : Value} {zs : List Int} (h : IntS w lo hi v zs) : ∃ A c, v = .slice A zs.length c := let ⟨A, c, e, _⟩ := h; ⟨A, c, e⟩
theorem EndS.shape {w : World} {lo hi : Nat} {v : Value} {es : List (Int × Int)} (h : EndS w lo hi v es) : ∃ A c, v = .slice A es.length c := let ⟨A, c, e, _⟩ := h; ⟨A, c, e⟩
theorem SS.shape {α : Type} {R : World → Nat → Nat → Value → List α → Prop} {w : World} {lo hi : Nat} {v : Value} {xss : List (List α)} (h : SS R w lo hi v xss) : ∃ A c, v = .slice A xss.length c := let ⟨_, ⟨A, c, e, _⟩, _⟩ := h; ⟨A, c, e⟩
/-- a block of three cells, known whole -/
def Box3 (w : World) (g : Nat) (t : TypeId) (a b c : Value) : Prop := w.heap[g]? = some (.cells #[a, b, c] t (0, 0))
section
variable {w w' : World} {g : Nat} {t : TypeId} {a b c : Value}
theorem Box3.lt (h : Box3 w g t a b c) : g < w.heap.size := (Array.getElem?_eq_some_iff.1 h).1
theorem Box3.cells (h : Box3 w g t a b c) : w.cell? ⟨g, 0, none⟩ = some a ∧ w.cell? ⟨g, 1, none⟩ = some b ∧ w.cell? ⟨g, 2, none⟩ = some c := by
  refine ⟨?_, ?_, ?_⟩ <;> rw [cell_of_row w g _ _ t (0, 0) h] <;> rfl
theorem Box3.frozen (h : Box3 w g t a b c) (i : Nat) : w.frozen? ⟨g, i, none⟩ = false := by
  have h' : w.heap[g]? = some (.cells #[a, b, c] t (0, 0)) := h
  simp [World.frozen?, h']
theorem Box3.new (w : World) (t : TypeId) (a b c : Value) : Box3 (w.alloc (.cells #[a, b, c] t)) w.heap.size t a b c := heap_alloc_new w _
theorem Box3.alloc (h : Box3 w g t a b c) (o : Obj) : Box3 (w.alloc o) g t a b c := (Below.heap_alloc w o g h.lt).trans h
theorem Box3.below {B : Nat} (h : Box3 w g t a b c) (hb : Below B w w') (hg : g < B) : Box3 w' g t a b c := (hb.block g hg).trans h
theorem Box3.far (h : Box3 w g t a b c) {p : Addr} (hp : g ≠ p.block) (u : Value) : Box3 (w.setCell p u) g t a b c := (Below.heap_setCell w p u g hp).trans h
theorem Box3.set0 (h : Box3 w g t a b c) (u : Value) : Box3 (w.setCell ⟨g, 0, none⟩ u) g t u b c := by
  have h' : w.heap[g]? = some (.cells #[a, b, c] t (0, 0)) := h
  simp [Box3, World.setCell, Array.getElem?_modify, h']
end
theorem size_setCell (w : World) (p : Addr) (u : Value) : (w.setCell p u).heap.size = w.heap.size := by simp [World.setCell]

/-- a network as data -/
structure NetD where
  ends : List (List (Int × Int))
  ids : List Int
  inputs : List Int

/-- v is a network in memory -/
def Net (w : World) (lo hi : Nat) (v : Value) (N : NetD) : Prop :=
  ∃ ve vi vn, v = .agg #[ve, vi, vn] ∧ EndSS w lo hi ve N.ends ∧ IntS w lo hi vi N.ids ∧ IntS w lo hi vn N.inputs
/-- the same, its parts one behind the other, no two rows in one block -/
def NetX (w : World) (lo hi : Nat) (v : Value) (N : NetD) : Prop :=
  ∃ ve vi vn m1 m2, v = .agg #[ve, vi, vn] ∧ lo ≤ m1 ∧ m1 ≤ m2 ∧ m2 ≤ hi ∧ EndSSx w lo m1 ve N.ends ∧ IntS w m1 m2 vi N.ids ∧ IntS w m2 hi vn N.inputs
section
variable {w w' : World} {lo hi lo' hi' B l2 h2 : Nat} {v : Value} {N : NetD}
theorem Net.below (h : Net w lo hi v N) (hb : Below B w w') (hB : hi ≤ B) : Net w' lo hi v N := by
  obtain ⟨ve, vi, vn, rfl, h1, h2, h3⟩ := h
  exact ⟨ve, vi, vn, rfl, ESS.below h1 hb hB, h2.below hb hB, h3.below hb hB⟩
theorem Net.turned (h : Net w lo hi v N) (hb : Turned l2 h2 w w') (hB : hi ≤ w.heap.size) (hd : hi ≤ l2 ∨ h2 ≤ lo) : Net w' lo hi v N := by
  obtain ⟨ve, vi, vn, rfl, h1, h2, h3⟩ := h
  exact ⟨ve, vi, vn, rfl, ESS.turned h1 hb hB hd, h2.turned hb hB hd, h3.turned hb hB hd⟩
theorem Net.mono (h : Net w lo hi v N) (h1 : lo' ≤ lo) (h2 : hi ≤ hi') : Net w lo' hi' v N := by
  obtain ⟨ve, vi, vn, rfl, a, b, c⟩ := h
  exact ⟨ve, vi, vn, rfl, ESS.mono a h1 h2, b.mono h1 h2, c.mono h1 h2⟩
theorem NetX.below (h : NetX w lo hi v N) (hb : Below B w w') (hB : hi ≤ B) : NetX w' lo hi v N := by
  obtain ⟨ve, vi, vn, m1, m2, rfl, a1, a2, a3, h1, h2, h3⟩ := h
  exact ⟨ve, vi, vn, m1, m2, rfl, a1, a2, a3, ESSx.below h1 hb (by omega), h2.below hb (by omega), h3.below hb hB⟩
theorem NetX.turned (h : NetX w lo hi v N) (hb : Turned l2 h2 w w') (hB : hi ≤ w.heap.size) (hd : hi ≤ l2 ∨ h2 ≤ lo) : NetX w' lo hi v N := by
  obtain ⟨ve, vi, vn, m1, m2, rfl, a1, a2, a3, h1, h2, h3⟩ := h
  exact ⟨ve, vi, vn, m1, m2, rfl, a1, a2, a3, ESSx.turned h1 hb (by omega) (by omega), h2.turned hb (by omega) (by omega), h3.turned hb hB (by omega)⟩
end

end Go.Proofs.Ytbfjhehhpgcelaa

/- How the arguments of a law read: a slice of integers that came in reads as a list. No condition on any program. -/
namespace Go.Proofs.Ytbfjhehhpgcelaa
open Go.ChangeShapes Go.WideShapes Go.ChangeAt Go.RowKit
set_option linter.unusedVariables false

/-- an integer that an int can hold -/
def I64 (x : Int) : Prop := -9223372036854775808 ≤ x ∧ x ≤ 9223372036854775807
section
variable {H : Type} {enc : TypeId × Value → H} {P : Program} {W : World}
end

end Go.Proofs.Ytbfjhehhpgcelaa

/- Contracts of small functions of the program and of the reference on numbers and on lists of numbers. -/
namespace Go.Proofs.Ytbfjhehhpgcelaa
open Go.ChangeShapes Go.WideShapes Go.ChangeAt Go.RowKit
set_option linter.unusedVariables false

def inB (n lo hi : Int) : Bool := decide (lo ≤ n) && decide (n ≤ hi)
theorem inB_true {n lo hi : Int} (h1 : lo ≤ n) (h2 : n ≤ hi) : inB n lo hi = true := by simp [inB, h1, h2]
theorem inB_low {n lo hi : Int} (h1 : n < lo) : inB n lo hi = false := by simp [inB]; omega
theorem inB_le {n lo hi : Int} (h : inB n lo hi = true) : lo ≤ n ∧ n ≤ hi := by simpa [inB] using h
theorem within_any (n lo hi : Int) (w : World) :
    Calls Try.prog 21 #[.int .i64 n, .int .i64 lo, .int .i64 hi] w fun e w' => e = .returned (.bool (inB n lo hi)) ∧ w = w' := by
  by_cases h1 : lo ≤ n
  · go_enter Try.func21, Try.ntmps21
    go_wp2
    go_ret
    exact ⟨by simp [inB, h1], rfl⟩
  · have h1' : n < lo := by omega
    go_enter Try.func21, Try.ntmps21
    go_wp2
    go_ret
    exact ⟨ret_bool (inB_low h1').symm, rfl⟩

theorem l1In_any (n lo hi : Int) (w : World) :
    Calls Try.prog 24 #[.int .i64 n, .int .i64 lo, .int .i64 hi] w fun e w' => e = .returned (.bool (inB n lo hi)) ∧ w = w' := by
  by_cases h1 : lo ≤ n
  · go_enter Try.func24, Try.ntmps24
    go_wp2
    go_ret
    exact ⟨by simp [inB, h1], rfl⟩
  · have h1' : n < lo := by omega
    go_enter Try.func24, Try.ntmps24
    go_wp2
    go_ret
    exact ⟨ret_bool (inB_low h1').symm, rfl⟩

theorem below_a2' (w : World) (o o2 : Obj) : Below w.heap.size w ((w.alloc o).alloc o2) := ((Below.refl _ _).alloc (Nat.le_refl _) o).alloc (by simp) _

/-- a property of all elements before k -/
def Upto (zs : List Int) (k : Nat) (p : Int → Bool) : Prop := ∀ j, j < k → p (nth zs j) = true
theorem Upto.zero (zs : List Int) (p : Int → Bool) : Upto zs 0 p := fun j hj => absurd hj (by omega)
theorem Upto.succ {zs : List Int} {k : Nat} {p : Int → Bool} (h : Upto zs k p) (hk : p (nth zs k) = true) : Upto zs (k + 1) p := fun j hj => by
  by_cases e : j = k
  · rw [e]; exact hk
  · exact h j (by omega)
theorem Upto.all {zs : List Int} {p : Int → Bool} (h : Upto zs zs.length p) : zs.all p = true := by
  rw [List.all_eq_true]
  intro x hx
  obtain ⟨j, hj, e⟩ := List.mem_iff_getElem.1 hx
  have := h j hj
  rwa [nth_eq hj, e] at this
theorem all_false {zs : List Int} {k : Nat} {p : Int → Bool} (hk : k < zs.length) (h : p (nth zs k) = false) : zs.all p = false := by
  rw [Bool.eq_false_iff]
  intro ha
  rw [List.all_eq_true] at ha
  have := ha _ (nth_mem hk)
  rw [h] at this
  cases this

set_option maxHeartbeats 400000 in
theorem l1All_any (v : Value) (zs : List Int) (a b : Int) (lo hi : Nat) (w : World) (h : IntS w lo hi v zs) :
    Calls Try.prog 36 #[v, .int .i64 a, .int .i64 b] w fun e w' => e = .returned (.bool (zs.all fun x => inB x a b)) ∧ w = w' := by
  obtain ⟨A, c, rfl, hc1, hc2, hcell⟩ := h.form
  unfold maxLen at hc2
  go_enter Try.func36, Try.ntmps36
  go_wp2
  go_loop [11] (fun i => ∃ k : Nat, k ≤ zs.length ∧ i = .int .i64 k ∧ Hid (Upto zs k fun x => inB x a b)) (fun i => zs.length - (intOf i).toNat)
  case atStart => exact ⟨0, Nat.zero_le _, rfl, Lib.hid (Upto.zero _ _)⟩
  case round =>
    obtain ⟨k, hk, rfl, HU⟩ := hrel
    by_cases hlt : k < zs.length
    · obtain ⟨b', off, rfl, hb1, hb2, hcs⟩ := hcell (by omega)
      have hck := (hcs k hlt).1
      clear hcs hcell
      by_cases he : inB (nth zs k) a b = true
      · go_wp2_with (go_at_call 24; refine (l1In_any _ _ _ _).mono ?_; rintro e w' ⟨rfl, rfl⟩)
        go_round
        case rel => exact ⟨k + 1, by omega, by go_num, Lib.hid (HU.out.succ he)⟩
        case measure => simp [intOf]; omega
      · have he' : inB (nth zs k) a b = false := by simpa using he
        clear he
        go_wp2_with (go_at_call 24; refine (l1In_any _ _ _ _).mono ?_; rintro e w' ⟨rfl, rfl⟩)
        go_ret
        exact ⟨ret_bool (all_false hlt he').symm, rfl⟩
    · obtain rfl : k = zs.length := by omega
      go_wp2
      go_ret
      exact ⟨ret_bool HU.out.all.symm, rfl⟩

/-- the first k elements of a slice -/
theorem IntS.take {w : World} {lo hi : Nat} {A : Option Addr} {c : Nat} {zs : List Int} (h : IntS w lo hi (.slice A zs.length c) zs) (k : Nat) (hk : k ≤ zs.length) : IntS w lo hi (.slice A k c) (zs.take k) := by
  obtain ⟨A', c', e, h1, h2, h3⟩ := h.form
  injection e with e1 e2 e3
  subst e1 e3
  have hl : (zs.take k).length = k := List.length_take_of_le hk
  refine ⟨A, c, by rw [hl], by rw [hl]; omega, h2, fun hn => ?_⟩
  rw [hl] at hn
  obtain ⟨b, off, e4, h4, h5, h6⟩ := h3 (by omega)
  refine ⟨b, off, e4, h4, h5, fun j hj => ?_⟩
  rw [hl] at hj
  have : nth (zs.take k) j = nth zs j := by simp only [nth, List.getD_eq_getElem?_getD]; rw [List.getElem?_take_of_lt (by omega)]
  show w.cell? _ = some (Value.int .i64 (nth (zs.take k) j)) ∧ _
  rw [this]
  exact h6 j (by omega)

/-- the place of the first number that a predicate takes, or -1 -/
def fidx (p : Int → Bool) (zs : List Int) : Int := if zs.any p then (zs.findIdx p : Int) else -1
theorem fidx_hit {p : Int → Bool} {zs : List Int} {k : Nat} (hk : k < zs.length) (h : p (nth zs k) = true) (hb : ∀ j, j < k → p (nth zs j) = false) : fidx p zs = k := by
  have ha : zs.any p = true := List.any_eq_true.2 ⟨_, nth_mem hk, h⟩
  unfold fidx
  rw [if_pos ha]
  have : zs.findIdx p = k := by
    rw [List.findIdx_eq hk]
    refine ⟨by rw [← nth_eq hk]; exact h, fun j hj => ?_⟩
    have := hb j hj
    rw [nth_eq (by omega)] at this
    simpa using this
  rw [this]
theorem fidx_none {p : Int → Bool} {zs : List Int} (h : ∀ j, j < zs.length → p (nth zs j) = false) : fidx p zs = -1 := by
  unfold fidx
  rw [if_neg]
  intro ha
  obtain ⟨x, hx, hp⟩ := List.any_eq_true.1 ha
  obtain ⟨j, hj, e⟩ := List.mem_iff_getElem.1 hx
  have := h j hj
  rw [nth_eq hj, e, hp] at this
  cases this
theorem fidx_any (p : Int → Bool) (zs : List Int) : decide (0 ≤ fidx p zs) = zs.any p := by
  unfold fidx
  split
  · rename_i h; rw [h]; simp
  · rename_i h; rw [Bool.not_eq_true] at h; rw [h]; rfl

set_option maxHeartbeats 1000000 in
theorem IndexFunc_int (f : Nat) (caps : Array Value) (eg : ∀ args w, (callFunc f args).run Try.prog w = .ok (.enter f args) w) (p : Int → Bool) (v : Value) (zs : List Int) (lo hi : Nat) (w : World) (h : IntS w lo hi v zs) (hhi : hi ≤ w.heap.size)
    (hp : ∀ x ∈ zs, ∀ W, Below w.heap.size w W → Calls Try.prog f (#[.int .i64 x] ++ caps) W fun e w' => e = .returned (.bool (p x)) ∧ Below W.heap.size W w') :
    Calls Try.prog 56 #[v, .func (.func f) #[] caps] w fun e w' => e = .returned (.int .i64 (fidx p zs)) ∧ Below w.heap.size w w' := by
  obtain ⟨A, c, rfl, hc1, hc2, hcell⟩ := h.form
  unfold maxLen at hc2
  have HP := Lib.hid hp
  clear hp
  go_enter Try.func56, Try.ntmps56
  go_wp2
  go_loopw [8] (fun i wr => ∃ k : Nat, k ≤ zs.length ∧ i = .int .i64 k ∧ Hid (∀ j, j < k → p (nth zs j) = false) ∧ Below w.heap.size w wr) (fun i _ => zs.length - (intOf i).toNat)
  case atStart => exact ⟨0, Nat.zero_le _, rfl, Lib.hid fun j hj => absurd hj (by omega), Below.refl _ _⟩
  case round =>
    obtain ⟨k, hk, rfl, HU, hb⟩ := hrel
    have hs0 := hb.size
    by_cases hlt : k < zs.length
    · obtain ⟨b, off, rfl, hb1, hb2, hcs⟩ := hcell (by omega)
      have hck := (hb.cell (p := ⟨b, off + k, none⟩) (by show b < _; omega)).trans (hcs k hlt).1
      clear hcs hcell
      cases hq : p (nth zs k) with
      | true =>
        have HC := Lib.hid (HP.out _ (nth_mem hlt) wr hb)
        rw [hq] at HC
        have HQ := Lib.hid hq
        clear hq
        go_wp2_with (go_at_fn f; refine HC.out.mono ?_; rintro e w' ⟨rfl, hb'⟩)
        go_ret
        exact ⟨ret_int (fidx_hit hlt HQ.out HU.out).symm, hb.trans (hb'.mono hs0)⟩
      | false =>
        have HC := Lib.hid (HP.out _ (nth_mem hlt) wr hb)
        rw [hq] at HC
        have HQ := Lib.hid hq
        clear hq
        go_wp2_with (go_at_fn f; refine HC.out.mono ?_; rintro e w' ⟨rfl, hb'⟩)
        go_roundw
        case rel =>
          refine ⟨k + 1, by omega, by go_num, Lib.hid fun j hj => ?_, hb.trans (hb'.mono hs0)⟩
          by_cases e : j = k
          · rw [e]; exact HQ.out
          · exact HU.out j (by omega)
        case measure => simp [intOf]; omega
    · obtain rfl : k = zs.length := by omega
      go_wp2
      go_ret
      exact ⟨ret_int (fidx_none HU.out).symm, hb⟩

theorem ContainsFunc_int (f : Nat) (caps : Array Value) (eg : ∀ args w, (callFunc f args).run Try.prog w = .ok (.enter f args) w) (p : Int → Bool) (v : Value) (zs : List Int) (lo hi : Nat) (w : World) (h : IntS w lo hi v zs) (hhi : hi ≤ w.heap.size)
    (hp : ∀ x ∈ zs, ∀ W, Below w.heap.size w W → Calls Try.prog f (#[.int .i64 x] ++ caps) W fun e w' => e = .returned (.bool (p x)) ∧ Below W.heap.size W w') :
    Calls Try.prog 51 #[v, .func (.func f) #[] caps] w fun e w' => e = .returned (.bool (zs.any p)) ∧ Below w.heap.size w w' := by
  have HC := Lib.hid (IndexFunc_int f caps eg p v zs lo hi w h hhi hp)
  obtain ⟨A, c, rfl⟩ := h.shape
  clear hp h eg
  go_enter Try.func51, Try.ntmps51
  go_wp2_with (go_at_call 56; refine HC.out.mono ?_; rintro e w' ⟨rfl, hb'⟩)
  go_ret
  exact ⟨ret_bool (fidx_any p zs), hb'⟩

theorem not_any_not {α : Type} (p : α → Bool) (zs : List α) : (!zs.any fun x => !p x) = zs.all p := by
  induction zs with
  | nil => rfl
  | cons x l ih => rw [List.any_cons, List.all_cons, ← ih]; cases p x <;> simp

theorem allWithin_any (v : Value) (zs : List Int) (a b : Int) (lo hi : Nat) (w : World) (h : IntS w lo hi v zs) (hhi : hi ≤ w.heap.size) :
    Calls Try.prog 45 #[v, .int .i64 a, .int .i64 b] w fun e w' => e = .returned (.bool (zs.all fun x => inB x a b)) ∧ Below w.heap.size w w' := by
  have hb0 := below_a2' w (.cells #[.int .i64 a] 3) (.cells #[.int .i64 b] 3)
  have hcl : ∀ x ∈ zs, ∀ W, Below ((w.alloc (.cells #[.int .i64 a] 3)).alloc (.cells #[.int .i64 b] 3)).heap.size ((w.alloc (.cells #[.int .i64 a] 3)).alloc (.cells #[.int .i64 b] 3)) W →
      Calls Try.prog 52 (#[.int .i64 x] ++ #[.pointer (some ⟨w.heap.size, 0, none⟩), .pointer (some ⟨w.heap.size + 1, 0, none⟩)]) W fun e w' => e = .returned (.bool (!inB x a b)) ∧ Below W.heap.size W w' := by
    intro x _ W hW
    have c0 : W.cell? ⟨w.heap.size, 0, none⟩ = some (.int .i64 a) := by
      rw [hW.cell (p := ⟨w.heap.size, 0, none⟩) (by simp; omega), World.cell?_alloc_past _ _ _ (by simp), World.cell?_alloc_at _ _ _ _ rfl]; rfl
    have c1 : W.cell? ⟨w.heap.size + 1, 0, none⟩ = some (.int .i64 b) := by
      rw [hW.cell (p := ⟨w.heap.size + 1, 0, none⟩) (by simp), World.cell?_alloc_at _ _ _ _ (by simp)]; rfl
    clear hW
    show Calls Try.prog 52 #[.int .i64 x, .pointer (some ⟨w.heap.size, 0, none⟩), .pointer (some ⟨w.heap.size + 1, 0, none⟩)] W _
    go_enter Try.func52, Try.ntmps52
    go_wp2_with (go_at_call 21; refine (within_any _ _ _ _).mono ?_; rintro e w' ⟨rfl, rfl⟩)
    go_ret
    exact ⟨rfl, Below.refl _ _⟩
  have HC := Lib.hid (ContainsFunc_int 52 _ (enters_of Try.func52 (by kernel_rfl) rfl) (fun x => !inB x a b) v zs lo hi _ (h.below hb0 hhi) (by simp; omega) hcl)
  obtain ⟨A, c, rfl⟩ := h.shape
  clear hcl h
  have hmf : ∀ (fn : Fn) (first cap : Array Value) (w : World), (Instr.makeFunc fn first cap).run Try.prog w = .ok (.func fn first cap) w := fun _ _ _ _ => rfl
  go_enter Try.func45, Try.ntmps45
  go_wp2_with (go_at_call 51; refine HC.out.mono ?_; rintro e w' ⟨rfl, hb'⟩)
  go_ret
  exact ⟨ret_bool (not_any_not _ _), hb0.trans (hb'.mono (by simp; omega))⟩

end Go.Proofs.Ytbfjhehhpgcelaa

/- Contracts of the laws' helpers on slices of pairs. -/
namespace Go.Proofs.Ytbfjhehhpgcelaa
open Go.ChangeShapes Go.WideShapes Go.ChangeAt Go.RowKit
set_option linter.unusedVariables false

theorem below_a1 (w : World) (o : Obj) : Below w.heap.size w (w.alloc o) := (Below.refl _ _).alloc (Nat.le_refl _) _
/-- how many elements the first k lists have -/
def sumL {α : Type} (xss : List (List α)) (k : Nat) : Nat := ((xss.take k).map List.length).sum
def cntSS {α : Type} (xss : List (List α)) : Nat := sumL xss xss.length
def szSS {α : Type} (xss : List (List α)) : Nat := xss.length + cntSS xss
end Go.Proofs.Ytbfjhehhpgcelaa

/- Contracts of the laws' helpers on slices of slices of integers. -/
namespace Go.Proofs.Ytbfjhehhpgcelaa
open Go.ChangeShapes Go.WideShapes Go.ChangeAt Go.RowKit
set_option linter.unusedVariables false

theorem Try.info29 : (Try.prog.info? 29).map (fun i => (i.zero, i.size, i.bytes)) = some (some (.slice none 0 0), 1, 24) := by kernel_rfl

end Go.Proofs.Ytbfjhehhpgcelaa

/- Contracts of the laws' helpers on networks: szNetwork counts, toNetwork copies, eqNetwork compares, markNetwork writes. -/
namespace Go.Proofs.Ytbfjhehhpgcelaa
open Go.ChangeShapes Go.WideShapes Go.ChangeAt Go.RowKit
set_option linter.unusedVariables false

def NetD.sz (N : NetD) : Nat := szSS N.ends + N.ids.length + N.inputs.length
end Go.Proofs.Ytbfjhehhpgcelaa

/- Contracts of IsNetwork (program) and neGood (reference): both say whether a network is one. -/
namespace Go.Proofs.Ytbfjhehhpgcelaa
open Go.ChangeShapes Go.WideShapes Go.ChangeAt Go.RowKit
set_option linter.unusedVariables false

/-- slices.Clone -/
theorem clone_any (v : Value) (zs : List Int) (lo hi : Nat) (w : World) (h : IntS w lo hi v zs) (hn : zs.length ≤ 16777216) :
    Calls Try.prog 30 #[v] w fun e w' => ∃ r, e = .returned r ∧ OwnI w' w.heap.size 3 r zs ∧ Below w.heap.size w w' := by
  obtain ⟨A, c, rfl, hc1, hc2, hcell⟩ := h.form
  rcases Nat.eq_zero_or_pos zs.length with h0 | h0
  · obtain rfl : zs = [] := List.eq_nil_of_length_eq_zero h0
    cases A with
    | none =>
      refine (Try.slices_Clone_int_nil _ _ _).mono ?_
      rintro e w' ⟨rfl, rfl⟩
      exact ⟨_, rfl, OwnI.nil _ _ _, Below.refl _ _⟩
    | some a =>
      refine (Try.slices_Clone_int_zero _ _ _).mono ?_
      rintro e w' ⟨r, rfl, h1, _, h2⟩
      exact ⟨_, rfl, h1, h2⟩
  · obtain ⟨b, off, rfl, hb1, hb2, hcs⟩ := hcell h0
    refine (Try.slices_Clone_int b off zs.length c zs w (Nat.le_refl _) (by omega) (fun j hj => (hcs j hj).1)).mono ?_
    rintro e w' ⟨r, rfl, h1, _, h2⟩
    rw [List.take_length] at h1
    exact ⟨_, rfl, by simpa [OwnI, Own] using h1, h2⟩

end Go.Proofs.Ytbfjhehhpgcelaa

/- Plain: parents by ports, the root, the hops to it. -/
namespace Go.Proofs.Ytbfjhehhpgcelaa
set_option linter.unusedVariables false

/-- the outer row of a network's ends, opened -/
def NetO (w : World) (lo hi b off : Nat) (N : NetD) : Prop :=
  ∀ t, t < N.ends.length → ∃ A c, w.cell? ⟨b, off + t, none⟩ = some (.slice A (nthL N.ends t).length c) ∧ (nthL N.ends t).length ≤ c ∧ c ≤ 9223372036854775807 ∧
    (0 < (nthL N.ends t).length → ∃ b2 off2, A = some ⟨b2, off2, none⟩ ∧ lo ≤ b2 ∧ b2 < hi ∧ ∀ r, r < (nthL N.ends t).length → w.cell? ⟨b2, off2 + r * 2, none⟩ = some (.int .i64 (nthE (nthL N.ends t) r).1) ∧ w.cell? ⟨b2, off2 + r * 2 + 1, none⟩ = some (.int .i64 (nthE (nthL N.ends t) r).2))
open Go.RowKit in
theorem NetO.below {w w' : World} {lo hi b off B : Nat} {N : NetD} (h : NetO w lo hi b off N) (hb : Below B w w') (h1 : b < B) (h2 : hi ≤ B) : NetO w' lo hi b off N := by
  intro t ht
  obtain ⟨A, c, a1, a2, a3, a4⟩ := h t ht
  refine ⟨A, c, (hb.cell (p := ⟨b, off + t, none⟩) h1).trans a1, a2, a3, fun hp => ?_⟩
  obtain ⟨b2, off2, e, a5, a6, a7⟩ := a4 hp
  exact ⟨b2, off2, e, a5, a6, fun r hr => ⟨(hb.cell (p := ⟨b2, off2 + r * 2, none⟩) (by show b2 < B; omega)).trans (a7 r hr).1, (hb.cell (p := ⟨b2, off2 + r * 2 + 1, none⟩) (by show b2 < B; omega)).trans (a7 r hr).2⟩⟩
def rootOf (ps : List Int) : Int := fidx (fun x => x == -1) ps
/-- node v spoils the parents -/
def badPar (N : NetD) (ps : List Int) (v : Nat) : Bool := (nth ps v == -1 && !decide ((v : Int) = rootOf ps)) || (nth ps v != -1 && !inB (nth ps v) 0 (((nthL N.ends v).length : Int) - 1))
/-- the node behind the parent's port -/
def up (N : NetD) (ps : List Int) (v : Nat) : Nat := (nthE (nthL N.ends v) (nth ps v).toNat).1.toNat
theorem rootOf_none {ps : List Int} (h : ∀ j, j < ps.length → nth ps j ≠ -1) : rootOf ps = -1 := fidx_none fun j hj => by simpa using h j hj
/-- what the reference knows of the root behind k parents -/
def RInv (N : NetD) (ps : List Int) (k : Nat) (ρ : Int) : Prop := (∀ j, j < k → badPar N ps j = false) ∧ ((ρ = -1 ∧ ∀ j, j < k → nth ps j ≠ -1) ∨ (ρ = rootOf ps ∧ 0 ≤ ρ ∧ ρ < k))
theorem RInv.zero (N : NetD) (ps : List Int) : RInv N ps 0 (-1) := ⟨fun j hj => absurd hj (by omega), .inl ⟨rfl, fun j hj => absurd hj (by omega)⟩⟩
theorem not_bad {N : NetD} {ps : List Int} {k : Nat} (hm : nth ps k ≠ -1) (hi : inB (nth ps k) 0 (((nthL N.ends k).length : Int) - 1) = true) : badPar N ps k = false := by
  unfold badPar; rw [hi]; simp [hm]
theorem RInv.skip {N : NetD} {ps : List Int} {k : Nat} {ρ : Int} (h : RInv N ps k ρ) (hm : nth ps k ≠ -1) (hi : inB (nth ps k) 0 (((nthL N.ends k).length : Int) - 1) = true) : RInv N ps (k + 1) ρ := by
  obtain ⟨h1, h2⟩ := h
  refine ⟨fun j hj => ?_, ?_⟩
  · by_cases e : j = k
    · subst e; exact not_bad hm hi
    · exact h1 j (by omega)
  · rcases h2 with ⟨e, h3⟩ | ⟨e, e1, e2⟩
    · refine .inl ⟨e, fun j hj => ?_⟩
      by_cases e : j = k
      · subst e; exact hm
      · exact h3 j (by omega)
    · exact .inr ⟨e, e1, by omega⟩
theorem RInv.none {N : NetD} {ps : List Int} {ρ : Int} (h : RInv N ps ps.length ρ) (hρ : ρ < 0) : rootOf ps < 0 := by
  rcases h.2 with ⟨e, h3⟩ | ⟨e, e1, e2⟩
  · rw [rootOf_none h3]; omega
  · omega
theorem RInv.some {N : NetD} {ps : List Int} {ρ : Int} (h : RInv N ps ps.length ρ) (hρ : ¬ ρ < 0) : ρ = rootOf ps ∧ ρ < ps.length := by
  rcases h.2 with ⟨e, h3⟩ | ⟨e, e1, e2⟩
  · omega
  · exact ⟨e, e2⟩

end Go.Proofs.Ytbfjhehhpgcelaa

/- A queue of numbers that the call owns: it is cut at its head and appended to at its end. No condition on any program. -/
namespace Go.Proofs.Ytbfjhehhpgcelaa
open Go.RowKit

theorem nth_set (zs : List Int) (j i : Nat) (z : Int) (hj : j < zs.length) : nth (zs.set j z) i = if i = j then z else nth zs i := by
  unfold nth
  simp only [List.getD_eq_getElem?_getD, List.getElem?_set]
  by_cases e : j = i
  · subst e; simp [hj]
  · rw [if_neg e, if_neg (fun h => e h.symm)]
theorem nth_replicate (n : Nat) (x : Int) {i : Nat} (h : i < n) : nth (List.replicate n x) i = x := by rw [nth_eq (by simpa using h)]; simp
/-- a store into a row of numbers -/
theorem IntS.set {w : World} {lo hi b off n c : Nat} {zs : List Int} (h : IntS w lo hi (.slice (some ⟨b, off, none⟩) n c) zs) {j : Nat} (hj : j < zs.length) (z : Int) :
    IntS (w.setCell ⟨b, off + j, none⟩ (.int .i64 z)) lo hi (.slice (some ⟨b, off, none⟩) n c) (zs.set j z) := by
  obtain ⟨A, c', e, _⟩ := h.form
  injection e with e1 e2 e3
  subst e2
  have := Sl.set h (j := j) (by omega) (.int .i64 z)
  unfold IntS
  rw [List.length_set]
  exact this.congr fun i hi => by
    rw [nth_set _ _ _ _ hj]
    by_cases e : i = j <;> simp [e]
theorem IntS.at_ {w : World} {lo hi b off n c : Nat} {zs : List Int} (h : IntS w lo hi (.slice (some ⟨b, off, none⟩) n c) zs) {j : Nat} (hj : j < zs.length) :
    w.cell? ⟨b, off + j, none⟩ = some (.int .i64 (nth zs j)) ∧ w.frozen? ⟨b, off + j, none⟩ = false := by
  obtain ⟨A, c', e, _⟩ := h.form
  injection e with e1 e2 e3
  subst e2
  exact Sl.at_ h (by omega)

theorem IntS.set0 {w : World} {lo hi b n c : Nat} {zs : List Int} (h : IntS w lo hi (.slice (some ⟨b, 0, none⟩) n c) zs) {j : Nat} (hj : j < zs.length) (z : Int) :
    IntS (w.setCell ⟨b, j, none⟩ (.int .i64 z)) lo hi (.slice (some ⟨b, 0, none⟩) n c) (zs.set j z) := by
  have := h.set hj z
  rwa [Nat.zero_add] at this
theorem IntS.at0 {w : World} {lo hi b n c : Nat} {zs : List Int} (h : IntS w lo hi (.slice (some ⟨b, 0, none⟩) n c) zs) {j : Nat} (hj : j < zs.length) :
    w.cell? ⟨b, j, none⟩ = some (.int .i64 (nth zs j)) ∧ w.frozen? ⟨b, j, none⟩ = false := by
  have := h.at_ hj
  rwa [Nat.zero_add] at this

/-- rows elsewhere stay where one row grows -/
theorem IntS.far {w w' : World} {lo hi : Nat} {v : Value} {zs : List Int} {row : Option Nat} (h : IntS w lo hi v zs) (hg : w.grownBy w' row) (hB : hi ≤ w.heap.size) (hr : ∀ g, row = some g → g < lo ∨ hi ≤ g) : IntS w' lo hi v zs :=
  Sl.keep h fun k h1 h2 => hg.block k (by omega) (fun e => by have := hr k e.symm; omega)

/-- v is a queue that reads as zs; all cells up to its capacity are there and can be written; it lies in a block from base on -/
def OwnQ (w : World) (base : Nat) (v : Value) (zs : List Int) : Prop :=
  ∃ g off c, v = .slice (some ⟨g, off, none⟩) zs.length c ∧ zs.length ≤ c ∧ c ≤ maxLen ∧ base ≤ g ∧ g < w.heap.size ∧
    (∀ j, j < zs.length → w.cell? ⟨g, off + j, none⟩ = some (.int .i64 (nth zs j))) ∧ ∀ j, j < c → (w.cell? ⟨g, off + j, none⟩).isSome = true ∧ w.frozen? ⟨g, off + j, none⟩ = false

section
variable {w w' : World} {base : Nat} {v : Value} {zs : List Int}
theorem OwnQ.keep (h : OwnQ w base v zs) (hk : ∀ k, base ≤ k → k < w.heap.size → w'.heap[k]? = w.heap[k]?) (hs : w.heap.size ≤ w'.heap.size) : OwnQ w' base v zs := by
  obtain ⟨g, off, c, rfl, h1, h2, h3, h4, h5, h6⟩ := h
  have e := hk g h3 h4
  refine ⟨g, off, c, rfl, h1, h2, h3, by omega, fun j hj => (World.cell?_of_block (a := ⟨g, off + j, none⟩) e).trans (h5 j hj), fun j hj => ?_⟩
  rw [World.cell?_of_block (w := w) (w' := w') (a := ⟨g, off + j, none⟩) e, World.frozen?_of_block (w := w) (w' := w') (a := ⟨g, off + j, none⟩) e]
  exact h6 j hj
theorem OwnQ.alloc (h : OwnQ w base v zs) (o : Obj) : OwnQ (w.alloc o) base v zs := h.keep (fun k _ hk => Below.heap_alloc _ _ _ hk) (by simp)
theorem OwnQ.below {B : Nat} (h : OwnQ w base v zs) (hb : Below B w w') (hB : w.heap.size ≤ B) : OwnQ w' base v zs := h.keep (fun k _ hk => hb.block k (by omega)) hb.size
theorem OwnQ.setCell (h : OwnQ w base v zs) {p : Addr} (hp : p.block < base) (u : Value) : OwnQ (w.setCell p u) base v zs := h.keep (fun k hk _ => Below.heap_setCell _ _ _ _ (by omega)) (by simp [World.setCell])
theorem OwnQ.drewN (h : OwnQ w base v zs) (k : Nat) : OwnQ (w.drewN k) base v zs := h
theorem OwnQ.drew (h : OwnQ w base v zs) : OwnQ w.drew base v zs := h
theorem OwnQ.ints (h : OwnQ w base v zs) : IntS w base w.heap.size v zs := by
  obtain ⟨g, off, c, rfl, h1, h2, h3, h4, h5, h6⟩ := h
  refine ⟨_, c, rfl, h1, h2, fun _ => ⟨g, off, rfl, h3, h4, fun j hj => ⟨h5 j (by omega), (h6 j (by omega)).2⟩⟩⟩
theorem OwnQ.one (w : World) (x : Int) (t : TypeId) {g : Nat} (hg : w.heap.size = g) (hb : base ≤ g) : OwnQ (w.alloc (.cells #[.int .i64 x] t)) base (.slice (some ⟨g, 0, none⟩) 1 1) [x] := by
  subst hg
  have h1 : (w.alloc (.cells #[.int .i64 x] t)).cell? ⟨w.heap.size, 0, none⟩ = some (.int .i64 x) := by rw [World.cell?_alloc_at _ _ _ _ rfl]; rfl
  refine ⟨w.heap.size, 0, 1, rfl, Nat.le_refl _, by unfold maxLen; omega, hb, by simp, fun j hj => ?_, fun j hj => ?_⟩
  · obtain rfl : j = 0 := by simp at hj; omega
    exact h1
  · obtain rfl : j = 0 := by omega
    exact ⟨by rw [h1]; rfl, World.frozen?_alloc_at _ _ _ _ rfl⟩
theorem OwnQ.lt (h : OwnQ w base v zs) : ∀ k, v.ownBlock = some k → base ≤ k ∧ k < w.heap.size := by
  obtain ⟨g, off, c, rfl, h1, h2, h3, h4, h5, h6⟩ := h
  intro k hk
  obtain rfl : g = k := by simpa [Value.ownBlock] using hk
  exact ⟨h3, h4⟩
end

end Go.Proofs.Ytbfjhehhpgcelaa

/- Plain: distances by a walk over the nodes in the order in which they are found. -/
namespace Go.Proofs.Ytbfjhehhpgcelaa
set_option linter.unusedVariables false

/-- the nodes at the other sides of a node's ports -/
def nbs (N : NetD) (u : Nat) : List Int := (nthL N.ends u).map Prod.fst
theorem nbs_length (N : NetD) (u : Nat) : (nbs N u).length = (nthL N.ends u).length := by simp [nbs]
theorem nth_nbs (N : NetD) (u : Nat) {i : Nat} (h : i < (nthL N.ends u).length) : nth (nbs N u) i = (nthE (nthL N.ends u) i).1 := by
  rw [nth_eq (by rw [nbs_length]; exact h)]
  simp [nbs, nthE, h]
/-- all ends lead to nodes -/
def NetD.nodes (N : NetD) : Prop := ∀ v, v < N.ends.length → ∀ i, i < (nthL N.ends v).length → ∃ t : Nat, (nthE (nthL N.ends v) i).1 = t ∧ t < N.ends.length
abbrev BSt := List Int × List Int
def see (d : Int) (st : BSt) (w : Int) : BSt := if nth st.1 w.toNat < 0 then (st.1.set w.toNat d, st.2 ++ [w]) else st
def seeAll (d : Int) (st : BSt) (ws : List Int) : BSt := ws.foldl (see d) st
theorem seeAll_succ (d : Int) (st : BSt) (ws : List Int) {k : Nat} (hk : k < ws.length) : seeAll d st (ws.take (k + 1)) = see d (seeAll d st (ws.take k)) (nth ws k) := by
  unfold seeAll
  rw [List.take_succ_eq_append_getElem hk, List.foldl_append, nth_eq hk]
  rfl
def bstep (N : NetD) (a : Nat) (st : BSt) : BSt := seeAll (nth st.1 (nth st.2 a).toNat + 1) st (nbs N (nth st.2 a).toNat)
def bfs (N : NetD) : Nat → Nat → BSt → BSt
  | 0, _, st => st
  | f + 1, a, st => if a < st.2.length then bfs N f (a + 1) (bstep N a st) else st
def bfs0 (N : NetD) (v : Nat) : BSt := ((List.replicate N.ends.length (-1)).set v 0, [(v : Int)])
def dist (N : NetD) (v : Nat) : List Int := (bfs N (N.ends.length + 1) 0 (bfs0 N v)).1

structure BInv (n : Nat) (st : BSt) : Prop where
  len : st.1.length = n
  count : st.2.length + st.1.countP (fun x => decide (x < 0)) = n
  node : ∀ i, i < st.2.length → ∃ t : Nat, nth st.2 i = t ∧ t < n ∧ 0 ≤ nth st.1 t ∧ nth st.1 t ≤ i
  low : ∀ j, j < n → -1 ≤ nth st.1 j ∧ nth st.1 j ≤ n
theorem BInv.le {n : Nat} {st : BSt} (h : BInv n st) : st.2.length ≤ n := by have := h.count; omega
theorem BInv.start {N : NetD} {v : Nat} (hv : v < N.ends.length) : BInv N.ends.length (bfs0 N v) := by
  have hl : (List.replicate N.ends.length (-1 : Int)).length = N.ends.length := by simp
  refine ⟨by simp [bfs0], ?_, fun i hi => ?_, fun j hj => ?_⟩
  · have hp : 0 < (List.replicate N.ends.length (-1 : Int)).countP (fun x => decide (x < 0)) := by rw [List.countP_replicate]; simp; omega
    show 1 + List.countP _ ((List.replicate N.ends.length (-1)).set v 0) = _
    rw [List.countP_set (by simpa using hv)]
    simp [List.countP_replicate]
    omega
  · obtain rfl : i = 0 := by simp [bfs0] at hi; exact hi
    refine ⟨v, rfl, hv, ?_⟩
    simp only [bfs0]
    rw [nth_set _ _ _ _ (by simpa using hv), if_pos rfl]
    simp
  · simp only [bfs0]
    rw [nth_set _ _ _ _ (by simpa using hv)]
    by_cases e : j = v
    · rw [if_pos e]; omega
    · rw [if_neg e, nth_replicate _ _ hj]; omega
theorem see_neg {d : Int} {st : BSt} {t : Nat} (h : nth st.1 t < 0) : see d st t = (st.1.set t d, st.2 ++ [(t : Int)]) := by unfold see; rw [Int.toNat_natCast, if_pos h]
theorem see_pos {d : Int} {st : BSt} {t : Nat} (h : ¬ nth st.1 t < 0) : see d st t = st := by unfold see; rw [Int.toNat_natCast, if_neg h]
theorem BInv.see {n : Nat} {st : BSt} (h : BInv n st) {t : Nat} (ht : t < n) {d : Int} (h0 : 0 ≤ d) (hd : d ≤ st.2.length) : BInv n (see d st t) := by
  by_cases hn : nth st.1 t < 0
  · rw [see_neg hn]
    have htl : t < st.1.length := by rw [h.len]; exact ht
    have hc : (st.1.set t d).countP (fun x => decide (x < 0)) = st.1.countP (fun x => decide (x < 0)) - 1 := by
      rw [List.countP_set htl]
      have : decide (st.1[t] < 0) = true := by rw [← nth_eq htl]; simpa using hn
      rw [this]
      simp
      omega
    have hp : 0 < st.1.countP (fun x => decide (x < 0)) := by
      rw [List.countP_pos_iff]
      exact ⟨_, nth_mem htl, by simpa using hn⟩
    have hc2 := h.count
    refine ⟨by simp [h.len], ?_, fun i hi => ?_, fun j hj => ?_⟩
    · simp only [List.length_append, List.length_singleton]; omega
    · simp only [List.length_append, List.length_singleton] at hi
      by_cases e : i < st.2.length
      · obtain ⟨u, e1, e2, e3, e4⟩ := h.node i e
        have hut : u ≠ t := by rintro rfl; omega
        exact ⟨u, by rw [nth_append_left e]; exact e1, e2, by dsimp only; rw [nth_set _ _ _ _ htl, if_neg hut]; exact e3, by dsimp only; rw [nth_set _ _ _ _ htl, if_neg hut]; exact e4⟩
      · obtain rfl : i = st.2.length := by omega
        exact ⟨t, nth_append_at _ _, ht, by dsimp only; rw [nth_set _ _ _ _ htl, if_pos rfl]; exact h0, by dsimp only; rw [nth_set _ _ _ _ htl, if_pos rfl]; exact hd⟩
    · dsimp only
      rw [nth_set _ _ _ _ htl]
      by_cases e : j = t
      · rw [if_pos e]; omega
      · rw [if_neg e]; exact h.low j hj
  · rw [see_pos hn]; exact h
/-- what one more node leaves: what was found stays, and so does its distance -/
structure Kept (st st' : BSt) : Prop where
  len : st.2.length ≤ st'.2.length
  walk : ∀ i, i < st.2.length → nth st'.2 i = nth st.2 i
  out : ∀ j, 0 ≤ nth st.1 j → nth st'.1 j = nth st.1 j
theorem Kept.refl (st : BSt) : Kept st st := ⟨Nat.le_refl _, fun _ _ => rfl, fun _ _ => rfl⟩
theorem Kept.see {st st' : BSt} (h : Kept st st') (d : Int) (t : Nat) : Kept st (see d st' t) := by
  by_cases hn : nth st'.1 t < 0
  · rw [see_neg hn]
    refine ⟨by simp; have := h.len; omega, fun i hi => by dsimp only; rw [nth_append_left (by have := h.len; omega)]; exact h.walk i hi, fun j hj => ?_⟩
    dsimp only
    have hjt : j ≠ t := by rintro rfl; rw [h.out j hj] at hn; omega
    by_cases hl : t < st'.1.length
    · rw [nth_set _ _ _ _ hl, if_neg hjt]; exact h.out j hj
    · rw [List.set_eq_of_length_le (by omega)]; exact h.out j hj
  · rw [see_pos hn]; exact h
theorem bfs_go (N : NetD) {f a : Nat} {st : BSt} (h : a < st.2.length) : bfs N (f + 1) a st = bfs N f (a + 1) (bstep N a st) := by rw [bfs, if_pos h]
/-- the states between: k ports of the node at place a have been looked at -/
structure BMid (N : NetD) (a : Nat) (st : BSt) (u : Nat) (d : Int) (k : Nat) (sk : BSt) : Prop where
  eq : sk = seeAll (d + 1) st ((nbs N u).take k)
  inv : BInv N.ends.length sk
  kept : Kept st sk
  here : nth sk.1 u = d
  at_ : nth sk.2 a = u
  d0 : 0 ≤ d
  dle : d ≤ a
  alt : a < sk.2.length
theorem BMid.start {N : NetD} {a : Nat} {st : BSt} {u : Nat} {d : Int} (h : BInv N.ends.length st) (ha : a < st.2.length) (hu : nth st.2 a = u) (hd : nth st.1 u = d) : BMid N a st u d 0 st := by
  obtain ⟨t, e1, e2, e3, e4⟩ := h.node a ha
  obtain rfl : t = u := by omega
  exact ⟨by simp [seeAll], h, Kept.refl _, hd, hu, by omega, by omega, ha⟩
theorem BMid.next {N : NetD} {a : Nat} {st : BSt} {u : Nat} {d : Int} {k : Nat} {sk : BSt} (h : BMid N a st u d k sk) (hk : k < (nthL N.ends u).length) {t : Nat} (ht : (nthE (nthL N.ends u) k).1 = t) (htl : t < N.ends.length) :
    BMid N a st u d (k + 1) (see (d + 1) sk t) := by
  obtain ⟨e1, e2, e3, e4, e5, e6, e7, e8⟩ := h
  have hkk := (Kept.refl sk).see (d + 1) t
  refine ⟨?_, e2.see htl (by omega) (by omega), e3.see _ _, ?_, ?_, e6, e7, Nat.lt_of_lt_of_le e8 hkk.len⟩
  · rw [seeAll_succ _ _ _ (by rw [nbs_length]; exact hk), ← e1, nth_nbs N u hk, ht]
  · rw [hkk.out _ (by omega)]; exact e4
  · rw [hkk.walk _ e8]; exact e5
theorem BMid.done {N : NetD} {a : Nat} {st : BSt} {u : Nat} {d : Int} {sk : BSt} (h : BMid N a st u d (nthL N.ends u).length sk) (hu : nth st.2 a = u) (hd : nth st.1 u = d) : sk = bstep N a st := by
  unfold bstep
  rw [hu, Int.toNat_natCast, hd, h.eq, List.take_of_length_le (by rw [nbs_length]; exact Nat.le_refl _)]
/-- the outer loop: the walk stands at place a -/
structure BTop (N : NetD) (v a : Nat) (st : BSt) : Prop where
  inv : BInv N.ends.length st
  le : a ≤ st.2.length
  eq : dist N v = (bfs N (N.ends.length + 1 - a) a st).1
theorem BTop.start {N : NetD} {v : Nat} (hv : v < N.ends.length) : BTop N v 0 (bfs0 N v) := ⟨BInv.start hv, Nat.zero_le _, rfl⟩
theorem BTop.next {N : NetD} {v a : Nat} {st sk : BSt} {u : Nat} {d : Int} (h : BTop N v a st) (ha : a < st.2.length) (hm : BMid N a st u d (nthL N.ends u).length sk) (hu : nth st.2 a = u) (hd : nth st.1 u = d) : BTop N v (a + 1) sk := by
  have := h.inv.le
  refine ⟨hm.inv, hm.alt, ?_⟩
  rw [h.eq, show N.ends.length + 1 - a = (N.ends.length + 1 - (a + 1)) + 1 by omega, bfs_go N ha, hm.done hu hd]
end Go.Proofs.Ytbfjhehhpgcelaa

/- One small lemma. No condition on any program. -/
namespace Go.Proofs.Ytbfjhehhpgcelaa
theorem ite_is {c : Prop} [Decidable c] {x y : Prop} (h : c) (k : x) : if c then x else y := by rw [if_pos h]; exact k
end Go.Proofs.Ytbfjhehhpgcelaa

/- Plain: the walk from a node, in the order in which nodes are found, and its code; a map that numbers the nodes of a list. No condition on any program. -/
namespace Go.Proofs.Ytbfjhehhpgcelaa
open Go.ChangeShapes Go.WideShapes Go.ChangeAt Go.RowKit
set_option linter.unusedVariables false

def wkStep (L : List Int) (x : Int) : List Int := if x ∈ L then L else L ++ [x]
def wkRow (N : NetD) (L : List Int) (u m : Nat) : List Int := ((nbs N u).take m).foldl wkStep L
def wkGo (N : NetD) : Nat → Nat → List Int → List Int
  | 0, _, L => L
  | f + 1, a, L => if a < L.length then wkGo N f (a + 1) (wkRow N L (nth L a).toNat (nbs N (nth L a).toNat).length) else L
def walkN (N : NetD) (v : Nat) : List Int := wkGo N (N.ends.length + 1) 0 [(v : Int)]
theorem wkRow_succ (N : NetD) (L : List Int) (u : Nat) {m : Nat} (h : m < (nbs N u).length) : wkRow N L u (m + 1) = wkStep (wkRow N L u m) (nth (nbs N u) m) := by
  unfold wkRow; rw [List.take_succ_eq_append_getElem h, List.foldl_append, nth_eq h]; rfl
/-- the nodes found so far: each once -/
structure WkOk (N : NetD) (L : List Int) : Prop where
  nodup : L.Nodup
  node : ∀ x ∈ L, ∃ t : Nat, x = t ∧ t < N.ends.length
theorem WkOk.step {N : NetD} {L : List Int} (h : WkOk N L) {t : Nat} (ht : t < N.ends.length) : WkOk N (wkStep L (t : Int)) := by
  unfold wkStep
  split
  · exact h
  · rename_i hm
    refine ⟨?_, fun x hx => ?_⟩
    · rw [List.nodup_append]
      exact ⟨h.nodup, by simp, fun a ha b hb => by simp at hb; subst hb; rintro rfl; exact hm ha⟩
    · rw [List.mem_append, List.mem_singleton] at hx
      rcases hx with hx | rfl
      · exact h.node x hx
      · exact ⟨t, rfl, ht⟩
theorem nodupI_len : ∀ (l : List Int) (m : List Int), l.Nodup → (∀ x ∈ l, x ∈ m) → l.length ≤ m.length
  | [], m, _, _ => Nat.zero_le _
  | a :: l, m, hn, h => by
    rw [List.nodup_cons] at hn
    have ha : a ∈ m := h a (by simp)
    have hle := nodupI_len l (m.erase a) hn.2 fun x hx => (List.mem_erase_of_ne (fun e => hn.1 (by rw [← e]; exact hx))).2 (h x (List.mem_cons_of_mem _ hx))
    rw [List.length_erase_of_mem ha] at hle
    have := List.length_pos_of_mem ha
    simp only [List.length_cons]; omega
theorem WkOk.len {N : NetD} {L : List Int} (h : WkOk N L) : L.length ≤ N.ends.length := by
  have := nodupI_len L ((List.range N.ends.length).map fun (k : Nat) => (k : Int)) h.nodup (fun x hx => by
    obtain ⟨t, rfl, ht⟩ := h.node x hx
    exact List.mem_map.2 ⟨t, List.mem_range.2 ht, rfl⟩)
  simpa using this
theorem WkOk.at_ {N : NetD} {L : List Int} (h : WkOk N L) {k : Nat} (hk : k < L.length) : ∃ t : Nat, nth L k = t ∧ t < N.ends.length := h.node _ (nth_mem hk)
theorem WkOk.row {N : NetD} (hN : N.nodes) {L : List Int} (h : WkOk N L) {u : Nat} (hu : u < N.ends.length) : ∀ m, m ≤ (nbs N u).length → WkOk N (wkRow N L u m)
  | 0, _ => h
  | m + 1, hm => by
    rw [wkRow_succ _ _ _ (by omega)]
    obtain ⟨t, et, ht⟩ := hN u hu m (by rw [nbs_length] at hm; omega)
    rw [nth_nbs N u (by rw [nbs_length] at hm; omega), et]
    exact (WkOk.row hN h hu m (by omega)).step ht
theorem wkStep_pre (L : List Int) (x : Int) : L <+: wkStep L x := by
  unfold wkStep; split
  · exact List.prefix_refl _
  · exact List.prefix_append _ _
theorem wkRow_pre (N : NetD) (L : List Int) (u : Nat) : ∀ m, m ≤ (nbs N u).length → L <+: wkRow N L u m
  | 0, _ => List.prefix_refl _
  | m + 1, h => by rw [wkRow_succ _ _ _ (by omega)]; exact (wkRow_pre N L u m (by omega)).trans (wkStep_pre _ _)
/-- where the walk stands -/
structure WkTop (N : NetD) (v a : Nat) (L : List Int) : Prop where
  ok : WkOk N L
  le : a ≤ L.length
  eq : walkN N v = wkGo N (N.ends.length + 1 - a) a L
theorem WkTop.start {N : NetD} {v : Nat} (hv : v < N.ends.length) : WkTop N v 0 [(v : Int)] :=
  ⟨⟨by simp, fun x hx => ⟨v, by simpa using hx, hv⟩⟩, Nat.zero_le _, rfl⟩
theorem WkTop.next {N : NetD} (hN : N.nodes) {v a : Nat} {L : List Int} (h : WkTop N v a L) (ha : a < L.length) {u : Nat} (hu : nth L a = u) (hun : u < N.ends.length) : WkTop N v (a + 1) (wkRow N L u (nbs N u).length) := by
  have hl := h.ok.len
  have hp := (wkRow_pre N L u _ (Nat.le_refl _)).length_le
  refine ⟨h.ok.row hN hun _ (Nat.le_refl _), by omega, ?_⟩
  rw [h.eq, show N.ends.length + 1 - a = (N.ends.length + 1 - (a + 1)) + 1 by omega]
  show (if a < L.length then _ else _) = _
  rw [if_pos ha, hu, Int.toNat_natCast]
/-- the index of a node in a list; 0 where it is not -/
def numV (L : List Int) (x : Int) : Int := if x ∈ L then (L.idxOf x : Int) else 0
/-! a map that numbers nodes -/
def rdN (v : Value) : Option (DataW Value × List MemPlace) := some (.held v, [])
theorem keyedN : Maps.Keyed Try.prog 3 := Maps.int_keyed Try.underlying3
theorem keyN {x : Int} (h : I64 x) : keyOf Try.prog 3 (.int .i64 x) = some (.int .i64 x) := Maps.keyOf_int_mk Try.underlying3 (WalkArith.wf_i64 h)
/-- block b is a map that numbers the nodes of L -/
def MpN (w : World) (b : Nat) (L : List Int) (m : Nat) : Prop :=
  ∃ (n : Nat) (D : DataW Value), n ≤ m ∧ w.ownsMap Try.prog 3 rdN b n D ∧ Maps.IsMap D ∧ (∀ x, I64 x → D.atKey (.int .i64 x) (.held (.int .i64 0)) = .held (.int .i64 (numV L x))) ∧ ∀ x, I64 x → Maps.has D (.int .i64 x) = decide (x ∈ L)
section
variable {w w' : World} {b m : Nat} {L : List Int}
theorem MpN.new (w : World) : MpN (w.alloc (.map #[] 0)) w.heap.size [] 0 :=
  ⟨0, .map [], Nat.le_refl _, World.ownsMap_made _ _ _ _, Maps.isMap_empty, fun x _ => rfl, fun x _ => rfl⟩
theorem MpN.lt (h : MpN w b L m) : b < w.heap.size := let ⟨_, _, _, h, _⟩ := h; h.lt
theorem MpN.mono (h : MpN w b L m) {m' : Nat} (hm : m ≤ m') : MpN w b L m' := let ⟨n, D, h1, h2⟩ := h; ⟨n, D, by omega, h2⟩
theorem MpN.kept {row : Option Nat} (h : MpN w b L m) (hg : w.grownBy w' row) (hr : some b ≠ row) : MpN w' b L m := let ⟨n, D, h1, h2, h3⟩ := h; ⟨n, D, h1, h2.kept hg hr, h3⟩
theorem MpN.far {row : Option Nat} (h : MpN w b L m) (hg : w.grownBy w' row) (hr : ∀ g, row = some g → g ≠ b) : MpN w' b L m := h.kept hg (fun e => hr b e.symm rfl)
theorem MpN.still (h : MpN w b L m) (hg : w.grownBy w' none) : MpN w' b L m := h.kept hg (by simp)
end
end Go.Proofs.Ytbfjhehhpgcelaa

/- Plain: the components of a network with their least codes, and their order. No condition on any program. -/
namespace Go.Proofs.Ytbfjhehhpgcelaa
set_option linter.unusedVariables false

/-- lexicographic order -/
def ltL : List Int → List Int → Bool
  | [], [] => false
  | [], _ :: _ => true
  | _ :: _, [] => false
  | a :: l, b :: m => if a = b then ltL l m else decide (a < b)
theorem ltL_irr : ∀ l, ltL l l = false
  | [] => rfl
  | a :: l => by simp only [ltL, if_pos]; exact ltL_irr l
end Go.Proofs.Ytbfjhehhpgcelaa

/- A slice of slices of numbers that the call owns and appends rows to. No condition on any program. -/
namespace Go.Proofs.Ytbfjhehhpgcelaa
open Go.RowKit

/-- v is a slice of slices that reads as xss; its own row lies from block base on; its rows lie one behind the other, from base on and below top -/
def OwnSS (w : World) (base top : Nat) (e : TypeId) (v : Value) (xss : List (List Int)) : Prop :=
  ∃ (vs : List Value) (lo hi : Nat → Nat), vs.length = xss.length ∧ Own w base e v vs ∧ base ≤ top ∧ top ≤ w.heap.size ∧
    (∀ j, j < xss.length → ∃ u, vs[j]? = some u ∧ base ≤ lo j ∧ hi j ≤ top ∧ IntS w (lo j) (hi j) u (nthL xss j) ∧ ∀ g, v.ownBlock = some g → g < lo j ∨ hi j ≤ g) ∧
    ∀ i j, i < j → j < xss.length → hi i ≤ lo j

theorem nthL_append_left {α : Type} {a b : List (List α)} {i : Nat} (h : i < a.length) : nthL (a ++ b) i = nthL a i := by simp [nthL, List.getElem?_append_left h]
theorem nthL_append_at {α : Type} (a : List (List α)) (x : List α) : nthL (a ++ [x]) a.length = x := by simp [nthL]

section
variable {w w' : World} {base top : Nat} {e : TypeId} {v : Value} {xss : List (List Int)}
theorem OwnSS.nil (w : World) (base top : Nat) (e : TypeId) (h1 : base ≤ top) (h2 : top ≤ w.heap.size) : OwnSS w base top e (.slice none 0 0) [] :=
  ⟨[], fun _ => 0, fun _ => 0, rfl, Own.nil _ _ _, h1, h2, fun j hj => absurd hj (by simp), fun i j _ hj => absurd hj (by simp)⟩
theorem OwnSS.below (h : OwnSS w base top e v xss) (hb : Below w.heap.size w w') : OwnSS w' base top e v xss := by
  obtain ⟨vs, lo, hi, h1, h2, h3, h4, h5, h6⟩ := h
  refine ⟨vs, lo, hi, h1, h2.kept (row := none) ⟨hb.os, hb.tape, hb.output, hb.size, fun k hk _ => hb.block k hk⟩ (by cases hv : v.ownBlock with
    | none => exact .inl rfl
    | some g => right; simp), h3, Nat.le_trans h4 hb.size, fun j hj => ?_, h6⟩
  obtain ⟨u, a1, a2, a3, a4, a5⟩ := h5 j hj
  exact ⟨u, a1, a2, a3, a4.below hb (by omega), a5⟩
theorem OwnSS.alloc (h : OwnSS w base top e v xss) (o : Obj) : OwnSS (w.alloc o) base top e v xss := h.below ((Below.refl _ _).alloc (Nat.le_refl _) o)
theorem OwnSS.drew (h : OwnSS w base top e v xss) : OwnSS w.drew base top e v xss := h
theorem OwnSS.drewN (h : OwnSS w base top e v xss) (k : Nat) : OwnSS (w.drewN k) base top e v xss := h
theorem OwnSS.len (h : OwnSS w base top e v xss) : ∃ A c, v = .slice A xss.length c ∧ xss.length ≤ c ∧ c ≤ maxLen := by
  obtain ⟨vs, lo, hi, h1, h2, _⟩ := h
  obtain ⟨A, c, e, a1, a2, _⟩ := h2.form
  exact ⟨A, c, by rw [e, h1], by omega, a2⟩
theorem OwnSS.lt (h : OwnSS w base top e v xss) : ∀ k, v.ownBlock = some k → base ≤ k ∧ k < w.heap.size := by
  obtain ⟨vs, lo, hi, h1, h2, _⟩ := h
  exact h2.lt
theorem OwnSS.mono (h : OwnSS w base top e v xss) {top' : Nat} (h1 : top ≤ top') (h2 : top' ≤ w.heap.size) : OwnSS w base top' e v xss := by
  obtain ⟨vs, lo, hi, a1, a2, a3, a4, a5, a6⟩ := h
  refine ⟨vs, lo, hi, a1, a2, by omega, h2, fun j hj => ?_, a6⟩
  obtain ⟨u, b1, b2, b3, b4, b5⟩ := a5 j hj
  exact ⟨u, b1, b2, by omega, b4, b5⟩
theorem OwnSS.ssx (h : OwnSS w base top e v xss) : IntSSx w base w.heap.size v xss := by
  obtain ⟨vs, lo, hi, h1, h2, h3, h4, h5, h6⟩ := h
  have hsl : Sl w base w.heap.size 1 v xss.length (fun j => vs.getD j undef) := by
    have := Sl.of_own (f := fun j => vs.getD j undef) h2 (fun j hj => by simp at hj; simp [hj])
    rwa [h1] at this
  have hr : ∀ j, j < xss.length → IntS w (lo j) (hi j) (vs.getD j undef) (nthL xss j) ∧ base ≤ lo j ∧ hi j ≤ top ∧ ∀ g, v.ownBlock = some g → g < lo j ∨ hi j ≤ g := fun j hj => by
    obtain ⟨u, a1, a2, a3, a4, a5⟩ := h5 j hj
    have : vs.getD j undef = u := by simp [a1]
    rw [this]
    exact ⟨a4, a2, a3, a5⟩
  refine ⟨fun j => vs.getD j undef, hsl, fun i hi' => (hr i hi').1.mono (hr i hi').2.1 (by have := (hr i hi').2.2.1; omega), fun i j hij hj => ?_, fun i hi' => ?_⟩
  · obtain ⟨a1, _⟩ := hr i (by omega)
    obtain ⟨b1, _⟩ := hr j hj
    rcases Sl.row a1 with e1 | ⟨g1, e1, c1, c2⟩
    · exact .inl e1
    · right
      rw [e1]
      rcases Sl.row b1 with e2 | ⟨g2, e2, d1, d2⟩
      · rw [e2]; simp
      · rw [e2]; intro e3; injection e3 with e3; have := h6 i j hij hj; omega
  · obtain ⟨a1, _, _, a2⟩ := hr i hi'
    rcases Sl.row a1 with e1 | ⟨g1, e1, c1, c2⟩
    · exact .inl e1
    · right
      rw [e1]
      unfold rowOf
      rw [if_neg (by omega)]
      intro e3
      have := a2 g1 e3.symm
      omega
end

/-- append of one row onto a slice of slices of the call's own, the row's slice just laid in a block of its own -/
theorem append_ss {P : Program} {ops : Array Oper} {rest : List Oper} {o : Oper} {a : Act} {Q : Exit → Act → World → Prop} {t e : TypeId} {bytes : Nat}
    (ht : P.underlying t = some (.slice e)) (hinfo : (P.info? e).map (fun i => (i.zero, i.size, i.bytes)) = some (some (.slice none 0 0), 1, bytes)) (hby : bytes ≤ 64)
    (w : World) (hgd : o.guard = none) {s : Operand} (x : Operand) (ho : o.op = .call { callee := .builtin .append, args := #[s, x], argTypes := #[t, t] })
    {base top : Nat} {v : Value} {xss : List (List Int)} (hown : OwnSS w base top e v xss) {u : Value} {xs : List Int} {lo hi : Nat} (hu : IntS w lo hi u xs) (hlo : top ≤ lo) (hhi : hi ≤ w.heap.size) (hlh : lo ≤ hi) (hfar : ∀ g, v.ownBlock = some g → g < lo ∨ hi ≤ g)
    (te : TypeId) (hs : a.eval s = v) (hx : a.eval x = .slice (some ⟨w.heap.size, 0, none⟩) 1 1) (hlen : xss.length < 1099511627776)
    (h : ∀ v' w', OwnSS w' base hi e v' (xss ++ [xs]) → w.grownBy w' v.ownBlock → (v'.ownBlock = v.ownBlock ∨ v'.ownBlock = some (w.heap.size + 1)) → wpList P ops Q rest (a.put o.dst v') w') :
    wpList P ops Q (o :: rest) a (w.alloc (.cells #[u] te)) := by
  obtain ⟨vs, los, his, h1, h2, h3, h4, h5, h6⟩ := hown
  obtain ⟨A, c, rfl⟩ := (show ∃ A c, u = .slice A xs.length c from let ⟨A, c, e, _⟩ := hu; ⟨A, c, e⟩)
  refine append1 ht hinfo rfl hby w hgd x ho h2 _ te hs hx rfl (by omega) (by omega) fun v' w' ho' hg' hat' => h v' w' ?_ hg' hat'
  have hgs := hg'.size
  have hold : ∀ j, j < xss.length → ∃ u, vs[j]? = some u ∧ base ≤ los j ∧ his j ≤ top ∧ IntS w' (los j) (his j) u (nthL xss j) ∧ ∀ g, v'.ownBlock = some g → g < los j ∨ his j ≤ g := fun j hj => by
    obtain ⟨u, a1, a2, a3, a4, a5⟩ := h5 j hj
    refine ⟨u, a1, a2, a3, a4.far hg' (by omega) a5, fun g hg => ?_⟩
    rcases hat' with e1 | e1
    · exact a5 g (by rw [← e1]; exact hg)
    · rw [e1] at hg; injection hg with hg; omega
  refine ⟨vs ++ [.slice A xs.length c], fun j => if j < xss.length then los j else lo, fun j => if j < xss.length then his j else hi, by simp [h1], ho', by omega, by omega, fun j hj => ?_, fun i j hij hj => ?_⟩
  · dsimp only
    by_cases e1 : j < xss.length
    · obtain ⟨u, a1, a2, a3, a4, a5⟩ := hold j e1
      rw [if_pos e1, if_pos e1, nthL_append_left e1]
      exact ⟨u, by rw [List.getElem?_append_left (by omega)]; exact a1, a2, by omega, a4, a5⟩
    · obtain rfl : j = xss.length := by simp at hj; omega
      rw [if_neg e1, if_neg e1, nthL_append_at]
      refine ⟨.slice A xs.length c, by rw [← h1]; simp, by omega, Nat.le_refl _, hu.far hg' hhi hfar, fun g hg => ?_⟩
      rcases hat' with e2 | e2
      · exact hfar g (by rw [← e2]; exact hg)
      · rw [e2] at hg; injection hg with hg; omega
  · dsimp only
    rw [if_pos (by simp at hj; omega)]
    by_cases e1 : j < xss.length
    · rw [if_pos e1]; exact h6 i j hij e1
    · rw [if_neg e1]
      obtain ⟨u, _, _, a3, _⟩ := h5 i (by simp at hj; omega)
      omega

end Go.Proofs.Ytbfjhehhpgcelaa

/- slices.Repeat of a list of one number. -/
namespace Go.Proofs.Ytbfjhehhpgcelaa
open Go.ChangeShapes Go.WideShapes Go.ChangeAt Go.RowKit
set_option linter.unusedVariables false

/-- a slice of one number, just laid -/
theorem IntS.one (w : World) (x : Int) (t : TypeId) {g : Nat} (hg : w.heap.size = g) : IntS (w.alloc (.cells #[.int .i64 x] t)) g (g + 1) (.slice (some ⟨g, 0, none⟩) 1 1) [x] := by
  subst hg
  refine ⟨_, 1, rfl, Nat.le_refl _, by unfold maxLen; omega, fun _ => ⟨w.heap.size, 0, rfl, Nat.le_refl _, by omega, fun j hj => ?_⟩⟩
  obtain rfl : j = 0 := by simp at hj; omega
  exact ⟨by rw [World.cell?_alloc_at _ _ _ _ rfl]; rfl, World.frozen?_alloc_at _ _ _ _ rfl⟩

end Go.Proofs.Ytbfjhehhpgcelaa

/- Worlds that extend a world: all that was there is there still, new blocks may have come, draws may have been made. Regions whose operations read old memory and whose callees only make new memory: one walk of the text's order serves every order. -/
namespace Go.Proofs.Ytbfjhehhpgcelaa
open Go.RowKit

/-- what has come: new blocks, and how many draws there have been -/
structure More where
  blocks : Array Obj
  draws : Nat
instance : Nonempty More := ⟨⟨#[], 0⟩⟩
end Go.Proofs.Ytbfjhehhpgcelaa

/- Contracts of the reference's neNear and meFrom. -/
namespace Go.Proofs.Ytbfjhehhpgcelaa
open Go.ChangeShapes Go.WideShapes Go.ChangeAt Go.RowKit
set_option linter.unusedVariables false

theorem Box3.grown {w w' : World} {g : Nat} {t : TypeId} {a b c : Value} {row : Option Nat} (h : Box3 w g t a b c) (hg : w.grownBy w' row) (hr : ∀ k, row = some k → k ≠ g) : Box3 w' g t a b c := (hg.block g h.lt (fun e => hr g e.symm rfl)).trans h
theorem IntS.of_row {w : World} {b n : Nat} {t : TypeId} {zs : List Int} (h : w.rowIs b t n (fun j => .int .i64 (nth zs j))) (hn : zs.length = n) (hm : n ≤ maxLen) : IntS w b (b + 1) (.slice (some ⟨b, 0, none⟩) n n) zs := by
  subst hn
  refine ⟨_, _, rfl, Nat.le_refl _, hm, fun hpos => ⟨b, 0, rfl, Nat.le_refl _, by omega, fun j hj => ?_⟩⟩
  rw [Nat.zero_add]
  exact ⟨h.cell (by omega), h.frozen j⟩

end Go.Proofs.Ytbfjhehhpgcelaa

/- Frames: one anchor world, at which what is read stays known; the world of the walk differs from it in a range of blocks that are written, and in new blocks. No condition on any program. -/
namespace Go.Proofs.Ytbfjhehhpgcelaa
open Go.RowKit

theorem ret_bb {a b c d : Bool} (h : a = b) (h2 : c = d) : Ending.returned (.tuple #[.bool a, .bool c]) = .returned (.tuple #[.bool b, .bool d]) := by rw [h, h2]
theorem nameC {P : Program} {c : Code} {Q : Exit → Act → World → Prop} {a : Act} {w : World} (h : ∀ W, Hid (W = w) → c.wp P Q a W) : c.wp P Q a w := h w (Lib.hid rfl)
theorem nameK {P : Program} {f : FuncId} {args : Array Value} {w : World} {Q : Ending → World → Prop} (h : ∀ W, Hid (W = w) → Calls P f args W Q) : Calls P f args w Q := h w (Lib.hid rfl)

section
variable {w w' : World}
theorem grown_below (h : Below w.heap.size w w') : w.grownBy w' none := ⟨h.os, h.tape, h.output, h.size, fun k hk _ => h.block k hk⟩
theorem grown_alloc (w : World) (o : Obj) : w.grownBy (w.alloc o) none := ⟨rfl, rfl, rfl, by simp, fun k hk _ => Below.heap_alloc _ _ _ hk⟩
theorem grown_set (w : World) (p : Addr) (u : Value) : w.grownBy (w.setCell p u) (some p.block) := grownBy_setCell (World.grownBy.refl _ _) rfl u
theorem grown_drewN (w : World) (n : Nat) : w.grownBy (w.drewN n) none := ⟨rfl, rfl, rfl, Nat.le_refl _, fun _ _ _ => rfl⟩
theorem grown_drew (w : World) : w.grownBy w.drew none := ⟨rfl, rfl, rfl, Nat.le_refl _, fun _ _ _ => rfl⟩
theorem grown_any {row : Option Nat} (h : w.grownBy w' none) : w.grownBy w' row := ⟨h.os, h.tape, h.output, h.size, fun k hk _ => h.block k hk (by simp)⟩
theorem grown_to_below (h : w.grownBy w' none) : Below w.heap.size w w' := ⟨h.os, h.tape, h.output, h.size, fun k hk => h.block k hk (by simp)⟩
theorem no_row (lo hi : Nat) : ∀ g : Nat, (none : Option Nat) = some g → g < lo ∨ hi ≤ g := fun _ h => by cases h
end

theorem Turned.grown {lo hi : Nat} {A W W' : World} {row : Option Nat} (h : Turned lo hi A W) (hg : W.grownBy W' row) (hr : ∀ g, row = some g → (lo ≤ g ∧ g < hi) ∨ A.heap.size ≤ g) : Turned lo hi A W' :=
  ⟨hg.os.trans h.os, hg.tape.trans h.tape, hg.output.trans h.output, Nat.le_trans h.size hg.size, fun k hk ho => (hg.block k (Nat.lt_of_lt_of_le hk h.size) (fun e => by have := hr k e.symm; omega)).trans (h.block k hk ho)⟩
theorem Turned.still {lo hi : Nat} {A W W' : World} (h : Turned lo hi A W) (hg : W.grownBy W' none) : Turned lo hi A W' := h.grown hg (fun g e => by cases e)
theorem Turned.below_of {B lo hi : Nat} {w A W : World} (h : Turned lo hi A W) (hb : Below B w A) (h1 : B ≤ lo) (h2 : B ≤ A.heap.size) : Below B w W :=
  ⟨h.os.trans hb.os, h.tape.trans hb.tape, h.output.trans hb.output, Nat.le_trans hb.size h.size, fun k hk => (h.block k (by omega) (by omega)).trans (hb.block k hk)⟩
theorem Turned.cell {lo hi : Nat} {A W : World} (h : Turned lo hi A W) {b o : Nat} (hl : b < A.heap.size) (hg : b < lo ∨ hi ≤ b) : W.cell? ⟨b, o, none⟩ = A.cell? ⟨b, o, none⟩ := World.cell?_of_block (a := ⟨b, o, none⟩) (h.block b hl hg)
theorem Turned.frozen {lo hi : Nat} {A W : World} (h : Turned lo hi A W) {b o : Nat} (hl : b < A.heap.size) (hg : b < lo ∨ hi ≤ b) : W.frozen? ⟨b, o, none⟩ = A.frozen? ⟨b, o, none⟩ := World.frozen?_of_block (a := ⟨b, o, none⟩) (h.block b hl hg)

section
variable {w w' : World} {lo hi base : Nat} {v : Value} {row : Option Nat}
theorem ISS.far {xss : List (List Int)} (h : IntSS w lo hi v xss) (hg : w.grownBy w' row) (hB : hi ≤ w.heap.size) (hr : ∀ g, row = some g → g < lo ∨ hi ≤ g) : IntSS w' lo hi v xss :=
  SS.keep (fun h => IntS.far h hg hB hr) h fun k h1 h2 => hg.block k (by omega) (fun e => by have := hr k e.symm; omega)
theorem OwnI.far {e : TypeId} {zs : List Int} (h : OwnI w base e v zs) (hg : w.grownBy w' row) (hr : ∀ g, row = some g → g < base ∨ v.ownBlock ≠ some g) : OwnI w' base e v zs :=
  h.kept hg (by
    rcases h.block with e1 | ⟨g, e1, h1, h2⟩
    · exact .inl e1
    · right; intro e2; rw [e1] at e2
      rcases hr g e2.symm with h3 | h3
      · omega
      · exact h3 e1)
theorem OwnI.still {e : TypeId} {zs : List Int} (h : OwnI w base e v zs) (hg : w.grownBy w' none) : OwnI w' base e v zs := h.far hg (fun g e => by cases e)
theorem IntS.still {zs : List Int} (h : IntS w lo hi v zs) (hg : w.grownBy w' none) (hB : hi ≤ w.heap.size) : IntS w' lo hi v zs := h.far hg hB (no_row _ _)
theorem ISS.still {xss : List (List Int)} (h : IntSS w lo hi v xss) (hg : w.grownBy w' none) (hB : hi ≤ w.heap.size) : IntSS w' lo hi v xss := ISS.far h hg hB (no_row _ _)
theorem Box3.still {g : Nat} {t : TypeId} {a b c : Value} (h : Box3 w g t a b c) (hg : w.grownBy w' none) : Box3 w' g t a b c := h.grown hg (fun k e => by cases e)
end

theorem rangeAll_false {n k : Nat} {p : Nat → Bool} (hk : k < n) (h : p k = false) : (List.range n).all p = false := by
  rw [Bool.eq_false_iff]; intro ha; rw [List.all_eq_true] at ha
  have := ha k (List.mem_range.2 hk); rw [h] at this; cases this
theorem rangeAll_true {n : Nat} {p : Nat → Bool} (h : ∀ k, k < n → p k = true) : (List.range n).all p = true := by
  rw [List.all_eq_true]; intro k hk; exact h k (List.mem_range.1 hk)
theorem rangeAll_at {n k : Nat} {p : Nat → Bool} (h : (List.range n).all p = true) (hk : k < n) : p k = true := by
  rw [List.all_eq_true] at h; exact h k (List.mem_range.2 hk)

theorem all_nth {zs : List Int} {p : Int → Bool} : zs.all p = true ↔ ∀ k, k < zs.length → p (nth zs k) = true := by
  rw [List.all_eq_true]
  constructor
  · intro h k hk; exact h _ (nth_mem hk)
  · intro h x hx
    obtain ⟨k, hk, e⟩ := List.mem_iff_getElem.1 hx
    have := h k hk
    rwa [nth_eq hk, e] at this
theorem nth_take {zs : List Int} {i j : Nat} (h : j < i) : nth (zs.take i) j = nth zs j := by simp [nth, List.getElem?_take_of_lt h]

/-- a block known whole -/
def BoxN (w : World) (g : Nat) (cs : Array Value) (t : TypeId) : Prop := w.heap[g]? = some (.cells cs t (0, 0))
section
variable {w w' A W : World} {g lo hi : Nat} {cs : Array Value} {t : TypeId} {row : Option Nat}
theorem BoxN.lt (h : BoxN w g cs t) : g < w.heap.size := (Array.getElem?_eq_some_iff.1 h).1
theorem BoxN.cell (h : BoxN w g cs t) (j : Nat) (hj : j < cs.size) : w.cell? ⟨g, j, none⟩ = some cs[j] := by
  rw [cell_of_row w g _ _ t (0, 0) h]; simp [hj]
theorem BoxN.frozen (h : BoxN w g cs t) (i : Nat) : w.frozen? ⟨g, i, none⟩ = false := by
  have h' : w.heap[g]? = some (.cells cs t (0, 0)) := h
  simp [World.frozen?, h']
theorem BoxN.far (h : BoxN w g cs t) (hg : w.grownBy w' row) (hr : ∀ k, row = some k → k ≠ g) : BoxN w' g cs t := (hg.block g h.lt (fun e => hr g e.symm rfl)).trans h
theorem BoxN.still (h : BoxN w g cs t) (hg : w.grownBy w' none) : BoxN w' g cs t := h.far hg (fun k e => by cases e)
theorem BoxN.below {B : Nat} (h : BoxN w g cs t) (hb : Below B w w') (hg : g < B) : BoxN w' g cs t := (hb.block g hg).trans h
theorem BoxN.new (w : World) (cs : Array Value) (t : TypeId) : BoxN (w.alloc (.cells cs t)) w.heap.size cs t := heap_alloc_new w _
theorem BoxN.new' (w : World) (cs : Array Value) (t : TypeId) {g : Nat} (hg : w.heap.size = g) : BoxN (w.alloc (.cells cs t)) g cs t := by subst hg; exact heap_alloc_new w _
theorem BoxN.set (h : BoxN w g cs t) (j : Nat) (u : Value) : BoxN (w.setCell ⟨g, j, none⟩ u) g (cs.setIfInBounds j u) t := by
  have h' : w.heap[g]? = some (.cells cs t (0, 0)) := h
  simp [BoxN, World.setCell, Array.getElem?_modify, h']
theorem Turned.boxN (h : Turned lo hi A W) (hb : BoxN A g cs t) (hg : g < lo ∨ hi ≤ g) : BoxN W g cs t := (h.block g hb.lt hg).trans hb
end
section
variable {w w' : World} {lo hi l2 h2 : Nat} {v : Value} {row : Option Nat}
theorem IntS.dims {zs : List Int} (h : IntS w lo hi v zs) : ∃ A c, v = .slice A zs.length c ∧ zs.length ≤ c ∧ c ≤ 9223372036854775807 := by
  obtain ⟨A, c, e, h1, h2, _⟩ := h; unfold maxLen at h2; exact ⟨A, c, e, h1, h2⟩
theorem SS.dims {α : Type} {R : World → Nat → Nat → Value → List α → Prop} {xss : List (List α)} (h : SS R w lo hi v xss) : ∃ A c, v = .slice A xss.length c ∧ xss.length ≤ c ∧ c ≤ 9223372036854775807 := by
  obtain ⟨_, ⟨A, c, e, h1, h2, _⟩, _⟩ := h; unfold maxLen at h2; exact ⟨A, c, e, h1, h2⟩
theorem EndS.dims {es : List (Int × Int)} (h : EndS w lo hi v es) : ∃ A c, v = .slice A es.length c ∧ es.length ≤ c ∧ c ≤ 9223372036854775807 := by
  obtain ⟨A, c, e, h1, h2, _⟩ := h; unfold maxLen at h2; exact ⟨A, c, e, h1, h2⟩
/-- one cell of a row of numbers -/
theorem IntS.opened {A : Option Addr} {n c : Nat} {zs : List Int} (h : IntS w lo hi (.slice A n c) zs) {j : Nat} (hj : j < zs.length) : ∃ b off, A = some ⟨b, off, none⟩ ∧ lo ≤ b ∧ b < hi ∧ w.cell? ⟨b, off + j, none⟩ = some (.int .i64 (nth zs j)) ∧ w.frozen? ⟨b, off + j, none⟩ = false := by
  obtain ⟨A', c', e, h1, h2, h3⟩ := h.form
  injection e with e1 e2 e3
  subst e1
  obtain ⟨b, off, e4, h4, h5, h6⟩ := h3 (by omega)
  exact ⟨b, off, e4, h4, h5, h6 j hj⟩
/-- one row of a slice of slices -/
theorem SS.opened {α : Type} {R : World → Nat → Nat → Value → List α → Prop} {A : Option Addr} {n c : Nat} {xss : List (List α)} (h : SS R w lo hi (.slice A n c) xss) {j : Nat} (hj : j < xss.length) : ∃ b off u, A = some ⟨b, off, none⟩ ∧ lo ≤ b ∧ b < hi ∧ w.cell? ⟨b, off + j, none⟩ = some u ∧ R w lo hi u (nthL xss j) := by
  obtain ⟨A', c', e, h1, h2, h3⟩ := h.form
  injection e with e1 e2 e3
  subst e1
  obtain ⟨b, off, e4, h4, h5, h6⟩ := h3 (by omega)
  obtain ⟨u, h7, h8⟩ := h6 j hj
  exact ⟨b, off, u, e4, h4, h5, h7, h8⟩
theorem SS.openedIn {α : Type} {R : World → Nat → Nat → Value → List α → Prop} {b off n c : Nat} {xss : List (List α)} (h : SS R w lo hi (.slice (some ⟨b, off, none⟩) n c) xss) {j : Nat} (hj : j < xss.length) : ∃ u, b < hi ∧ w.cell? ⟨b, off + j, none⟩ = some u ∧ R w lo hi u (nthL xss j) := by
  obtain ⟨b', off', u, e, h4, h5, h7, h8⟩ := h.opened hj
  injection e with e
  injection e with e1 e2
  subst e1 e2
  exact ⟨u, h5, h7, h8⟩
theorem EndS.opened {A : Option Addr} {n c : Nat} {es : List (Int × Int)} (h : EndS w lo hi (.slice A n c) es) {j : Nat} (hj : j < es.length) : ∃ b off, A = some ⟨b, off, none⟩ ∧ lo ≤ b ∧ b < hi ∧ w.cell? ⟨b, off + j * 2, none⟩ = some (.int .i64 (nthE es j).1) ∧ w.cell? ⟨b, off + j * 2 + 1, none⟩ = some (.int .i64 (nthE es j).2) := by
  obtain ⟨A', c', e, h1, h2, h3⟩ := h.form
  injection e with e1 e2 e3
  subst e1
  obtain ⟨b, off, e4, h4, h5, h6⟩ := h3 (by omega)
  exact ⟨b, off, e4, h4, h5, h6 j hj⟩
theorem OwnSS.still {base top : Nat} {e : TypeId} {xss : List (List Int)} (h : OwnSS w base top e v xss) (hg : w.grownBy w' none) : OwnSS w' base top e v xss := h.below (grown_to_below hg)
theorem OwnQ.still {base : Nat} {zs : List Int} (h : OwnQ w base v zs) (hg : w.grownBy w' none) : OwnQ w' base v zs := h.below (grown_to_below hg) (Nat.le_refl _)
/-- a row of numbers just laid -/
theorem IntS.newN (w : World) (zs : List Int) (t : TypeId) {g : Nat} (hg : w.heap.size = g) (hl : zs.length ≤ 1048576) : IntS (w.alloc (.cells (zs.map (Value.int .i64)).toArray t)) g (g + 1) (.slice (some ⟨g, 0, none⟩) zs.length zs.length) zs := by
  subst hg
  refine ⟨_, _, rfl, Nat.le_refl _, by unfold maxLen; omega, fun hpos => ⟨w.heap.size, 0, rfl, Nat.le_refl _, by omega, fun j hj => ?_⟩⟩
  rw [Nat.zero_add, World.cell?_alloc_at _ _ _ _ rfl]
  refine ⟨?_, World.frozen?_alloc_at _ _ _ _ rfl⟩
  have hj' : j < zs.length := by omega
  simp [hj', nth]
theorem EndS.far {es : List (Int × Int)} (h : EndS w lo hi v es) (hg : w.grownBy w' row) (hB : hi ≤ w.heap.size) (hr : ∀ g, row = some g → g < lo ∨ hi ≤ g) : EndS w' lo hi v es :=
  EndS.keep h fun k h1 h2 => hg.block k (by omega) (fun e => by have := hr k e.symm; omega)
end

end Go.Proofs.Ytbfjhehhpgcelaa

/- Contracts: lexicographic comparison of lists (slices.Compare and isBefore). -/
namespace Go.Proofs.Ytbfjhehhpgcelaa
open Go.ChangeShapes Go.WideShapes Go.ChangeAt Go.RowKit
set_option linter.unusedVariables false

def cmpV (a b : Int) : Int := if a < b then -1 else if b < a then 1 else 0
theorem cmpV_eq (a b : Int) : Lib.compareInt a b = cmpV a b := by unfold Lib.compareInt cmpV; rfl
def cmpL (a b : List Int) : Int := if ltL a b = true then -1 else if a = b then 0 else 1
theorem ltL_drop : ∀ (k : Nat) (a b : List Int), k ≤ a.length → k ≤ b.length → a.take k = b.take k → ltL a b = ltL (a.drop k) (b.drop k) ∧ (a = b ↔ a.drop k = b.drop k)
  | 0, a, b, _, _, _ => ⟨rfl, Iff.rfl⟩
  | k + 1, [], _, h, _, _ => by simp at h
  | k + 1, _ :: _, [], _, h, _ => by simp at h
  | k + 1, x :: a, y :: b, h1, h2, e => by
    simp only [List.take_succ_cons, List.cons.injEq] at e
    obtain ⟨rfl, e⟩ := e
    obtain ⟨i1, i2⟩ := ltL_drop k a b (by simpa using h1) (by simpa using h2) e
    refine ⟨by simp only [ltL, if_pos, List.drop_succ_cons]; exact i1, ?_⟩
    simp only [List.cons.injEq, true_and, List.drop_succ_cons]
    exact i2
theorem drop_cons {a : List Int} {k : Nat} (h : k < a.length) : a.drop k = nth a k :: a.drop (k + 1) := by rw [List.drop_eq_getElem_cons h, nth_eq h]
theorem take_same {a b : List Int} {k : Nat} (ha : k < a.length) (hb : k < b.length) (h : a.take k = b.take k) (e : nth a k = nth b k) : a.take (k + 1) = b.take (k + 1) := by
  rw [List.take_succ_eq_append_getElem ha, List.take_succ_eq_append_getElem hb, h, ← nth_eq ha, ← nth_eq hb, e]
theorem lt_long {a b : List Int} {k : Nat} (ha : k < a.length) (hb : b.length = k) (h : a.take k = b.take k) : ltL a b = false ∧ cmpL a b = 1 := by
  obtain ⟨h1, h2⟩ := ltL_drop k a b (by omega) (by omega) h
  rw [drop_cons ha, show b.drop k = [] from List.drop_eq_nil_of_le (by omega)] at h1 h2
  have h3 : ltL a b = false := h1
  refine ⟨h3, ?_⟩
  unfold cmpL
  rw [h3, if_neg (by decide), if_neg (fun e => by have := h2.1 e; cases this)]
theorem lt_short {a b : List Int} {k : Nat} (ha : a.length = k) (hb : k < b.length) (h : a.take k = b.take k) : ltL a b = true ∧ cmpL a b = -1 := by
  obtain ⟨h1, _⟩ := ltL_drop k a b (by omega) (by omega) h
  rw [drop_cons hb, show a.drop k = [] from List.drop_eq_nil_of_le (by omega)] at h1
  have h3 : ltL a b = true := h1
  exact ⟨h3, by unfold cmpL; rw [h3, if_pos rfl]⟩
theorem lt_same {a b : List Int} {k : Nat} (ha : a.length = k) (hb : b.length = k) (h : a.take k = b.take k) : ltL a b = false ∧ cmpL a b = 0 := by
  have e : a = b := by rw [List.take_of_length_le (by omega), List.take_of_length_le (by omega)] at h; exact h
  subst e
  exact ⟨ltL_irr a, by unfold cmpL; rw [ltL_irr, if_neg (by decide), if_pos rfl]⟩
theorem lt_diff {a b : List Int} {k : Nat} (ha : k < a.length) (hb : k < b.length) (h : a.take k = b.take k) (hne : nth a k ≠ nth b k) : ltL a b = decide (nth a k < nth b k) ∧ cmpL a b = cmpV (nth a k) (nth b k) := by
  obtain ⟨h1, h2⟩ := ltL_drop k a b (by omega) (by omega) h
  rw [drop_cons ha, drop_cons hb] at h1 h2
  simp only [ltL] at h1
  rw [if_neg hne] at h1
  refine ⟨h1, ?_⟩
  unfold cmpL cmpV
  rw [h1]
  by_cases e : nth a k < nth b k
  · rw [if_pos (decide_eq_true e), if_pos e]
  · rw [if_neg (by simpa using e), if_neg e, if_neg (fun e2 => by have := h2.1 e2; injection this with this; exact hne this), if_pos (by omega)]
theorem cmpV_ne {a b : Int} (h : a ≠ b) : cmpV a b ≠ 0 := by
  unfold cmpV
  split
  · omega
  · split <;> omega
theorem cmpV_same (a : Int) : cmpV a a = 0 := by unfold cmpV; rw [if_neg (by omega), if_neg (by omega)]

set_option maxHeartbeats 4000000 in
set_option maxRecDepth 100000 in
theorem compareL_any (v1 : Value) (a : List Int) (lo1 hi1 : Nat) (v2 : Value) (b : List Int) (lo2 hi2 : Nat) (w : World) (h1 : IntS w lo1 hi1 v1 a) (hh1 : hi1 ≤ w.heap.size) (h2 : IntS w lo2 hi2 v2 b) (hh2 : hi2 ≤ w.heap.size)  :
    Calls Try.prog 37 #[v1, v2] w fun e w' => e = .returned (.int .i64 (cmpL a b)) ∧ w = w' := by
  have F1 := Lib.hid h1
  have F2 := Lib.hid h2
  obtain ⟨A1, c1, rfl, hc1, hd1⟩ := h1.dims
  obtain ⟨A2, c2, rfl, hc2, hd2⟩ := h2.dims
  clear h1 h2
  have HP0 : Hid (∀ (x y : Int) (W : World), Calls Try.prog 46 #[.int .i64 x, .int .i64 y] W fun e w' => e = .returned (.int .i64 (cmpV x y)) ∧ w' = W) := Lib.hid (fun x y W => by rw [← cmpV_eq]; exact Try.cmp_Compare_int x y W)
  go_enter Try.func37, Try.ntmps37
  go_wp2_with fail
  go_loop [11] (fun i => ∃ k : Nat, k ≤ a.length ∧ k ≤ b.length ∧ i = .int .i64 k ∧ Hid (a.take k = b.take k)) (fun i => a.length - (intOf i).toNat)
  case atStart => exact ⟨0, Nat.zero_le _, Nat.zero_le _, rfl, Lib.hid rfl⟩
  case round =>
    obtain ⟨k, hka, hkb, rfl, HE⟩ := hrel
    by_cases ha : k < a.length
    case neg =>
      obtain rfl : k = a.length := by omega
      by_cases hb : a.length < b.length
      case pos =>
        have hbi : (a.length : Int) < b.length := by omega
        have HR := Lib.hid (lt_short rfl hb HE.out).2
        go_wp2_with fail
        go_ret
        exact ⟨ret_int HR.out.symm, rfl⟩
      have hbi : ¬ (a.length : Int) < b.length := by omega
      have HR := Lib.hid (lt_same rfl (by omega) HE.out).2
      go_wp2_with fail
      go_ret
      exact ⟨ret_int HR.out.symm, rfl⟩
    have hai : (k : Int) < a.length := by omega
    obtain ⟨b1, o1, rfl, _, _, x1, _⟩ := IntS.opened F1.out ha
    by_cases hb : k < b.length
    case neg =>
      have hbi : (b.length : Int) ≤ k := by omega
      have HR := Lib.hid (lt_long ha (by omega) HE.out).2
      go_wp2_with fail
      go_ret
      exact ⟨ret_int HR.out.symm, rfl⟩
    have hbi : ¬ (b.length : Int) ≤ k := by omega
    have hbi2 : (k : Int) < b.length := by omega
    obtain ⟨b2, o2, rfl, _, _, x2, _⟩ := IntS.opened F2.out hb
    by_cases e : nth a k = nth b k
    case pos =>
      have HN := Lib.hid (take_same ha hb HE.out e)
      obtain ⟨x, HX⟩ : ∃ x, Hid (nth b k = x) := ⟨_, Lib.hid rfl⟩
      rw [e, HX.out] at x1
      rw [HX.out] at x2
      clear e
      go_wp2_with (go_at_call 46; refine (HP0.out x x _).mono ?_; rintro e w' ⟨rfl, rfl⟩; rw [cmpV_same])
      go_roundw
      case rel => exact ⟨k + 1, by omega, by omega, by go_num, HN⟩
      case measure => simp [intOf]; omega
    have HR := Lib.hid (lt_diff ha hb HE.out e).2
    have hne := cmpV_ne e
    obtain ⟨x, HX⟩ : ∃ x, Hid (nth a k = x) := ⟨_, Lib.hid rfl⟩
    obtain ⟨y, HY⟩ : ∃ x, Hid (nth b k = x) := ⟨_, Lib.hid rfl⟩
    rw [HX.out] at x1 HR hne
    rw [HY.out] at x2 HR hne
    obtain ⟨c, HC⟩ : ∃ c, Hid (cmpV x y = c) := ⟨_, Lib.hid rfl⟩
    rw [HC.out] at HR hne
    have hne' : (c != 0) = true := by simpa using hne
    clear e hne
    go_wp2_with (go_at_call 46; refine (HP0.out x y _).mono ?_; rintro e w' ⟨rfl, rfl⟩; rw [HC.out])
    go_ret
    exact ⟨ret_int HR.out.symm, rfl⟩

end Go.Proofs.Ytbfjhehhpgcelaa
