/-
  Several texts in one: Mem, Own, SS, TokP, Queue, OwnSS. No condition on any program.
-/
import Derived.Below
import Derived.Laws.OwnMore
import Derived.Deep.Draws
import Derived.Deep.OwnRows
import Derived.Laws.Rows
import Derived.Laws.AppendOwn
import Derived.Lib.Hide
import Derived.Deep.QuietTactic
import Derived.Maps.AppendAt
import Derived.Maps.OwnSet
import Derived.Maps.OwnOps
import Derived.Maps.Views
import Derived.OwnWalk
import Derived.Laws.NewBlocks
import Derived.ArgAppend

/- Words for memory, and lemmas on them: slices of integers that read as lists. No condition on any program; used by all proofs of this seat. -/
namespace Go.Proofs.Ytcmmklcampmkjaa
open Go.RowKit

theorem ret_int {k : IntKind} {a b : Int} (h : a = b) : Ending.returned (.int k a) = .returned (.int k b) := by rw [h]
theorem ret_vb {r : Value} {c d : Bool} (h2 : c = d) : Ending.returned (.tuple #[r, .bool c]) = .returned (.tuple #[r, .bool d]) := by rw [h2]
theorem ret_bool {a b : Bool} (h : a = b) : Ending.returned (.bool a) = .returned (.bool b) := by rw [h]

/-- element i of a list of numbers; 0 past its end -/
def nth (zs : List Int) (i : Nat) : Int := zs.getD i 0
theorem nth_eq {zs : List Int} {i : Nat} (h : i < zs.length) : nth zs i = zs[i] := by simp [nth, h]
theorem nth_get? {zs : List Int} {i : Nat} (h : i < zs.length) : zs[i]? = some (nth zs i) := by simp [nth, h]
theorem nth_mem {zs : List Int} {i : Nat} (h : i < zs.length) : nth zs i ∈ zs := by rw [nth_eq h]; exact List.getElem_mem h
theorem nth_cons_zero (x : Int) (l : List Int) : nth (x :: l) 0 = x := rfl
theorem nth_cons_succ (x : Int) (l : List Int) (i : Nat) : nth (x :: l) (i + 1) = nth l i := rfl
theorem nth_append_left {a b : List Int} {i : Nat} (h : i < a.length) : nth (a ++ b) i = nth a i := by simp [nth, List.getElem?_append_left h]
theorem nth_append_at (a : List Int) (x : Int) : nth (a ++ [x]) a.length = x := by simp [nth]
theorem ext_nth {a b : List Int} (hl : a.length = b.length) (h : ∀ i, i < a.length → nth a i = nth b i) : a = b := by
  apply List.ext_getElem hl
  intro i h1 h2
  have := h i h1
  rwa [nth_eq h1, nth_eq h2] at this

/-- the world w' is w but for blocks from lo on that lie below hi, and for new blocks -/
structure Turned (lo hi : Nat) (w w' : World) : Prop where
  os : w'.os = w.os
  tape : w'.tape = w.tape
  output : w'.output = w.output
  size : w.heap.size ≤ w'.heap.size
  block : ∀ k, k < w.heap.size → (k < lo ∨ hi ≤ k) → w'.heap[k]? = w.heap[k]?

theorem Turned.refl (lo hi : Nat) (w : World) : Turned lo hi w w := ⟨rfl, rfl, rfl, Nat.le_refl _, fun _ _ _ => rfl⟩
theorem Turned.trans {lo hi : Nat} {a b c : World} (h : Turned lo hi a b) (k : Turned lo hi b c) : Turned lo hi a c :=
  ⟨k.os.trans h.os, k.tape.trans h.tape, k.output.trans h.output, Nat.le_trans h.size k.size, fun i hi ho => (k.block i (Nat.lt_of_lt_of_le hi h.size) ho).trans (h.block i hi ho)⟩
theorem Turned.mono {lo hi lo' hi' : Nat} {w w' : World} (h : Turned lo hi w w') (h1 : lo' ≤ lo) (h2 : hi ≤ hi') : Turned lo' hi' w w' :=
  ⟨h.os, h.tape, h.output, h.size, fun i hi ho => h.block i hi (by omega)⟩
theorem Turned.of_below {B lo hi : Nat} {w w' : World} (h : Below B w w') (hB : w.heap.size ≤ B) : Turned lo hi w w' :=
  ⟨h.os, h.tape, h.output, h.size, fun i hi _ => h.block i (by omega)⟩
theorem Turned.below {lo hi : Nat} {w w' : World} (h : Turned lo hi w w') (h2 : lo ≤ w.heap.size) : Below lo w w' :=
  ⟨h.os, h.tape, h.output, h.size, fun i hi => h.block i (by omega) (.inl hi)⟩
theorem Turned.setCell {lo hi : Nat} {a w : World} (h : Turned lo hi a w) {p : Addr} (h1 : lo ≤ p.block) (h2 : p.block < hi) (u : Value) : Turned lo hi a (w.setCell p u) :=
  h.trans ⟨rfl, rfl, rfl, by simp [World.setCell], fun k hk ho => Below.heap_setCell _ _ _ _ (by omega)⟩
theorem Turned.drewN {lo hi : Nat} {a w : World} (h : Turned lo hi a w) (n : Nat) : Turned lo hi a (w.drewN n) := ⟨h.os, h.tape, h.output, h.size, h.block⟩
theorem below_drewN {B : Nat} {a w : World} (h : Below B a w) (n : Nat) : Below B a (w.drewN n) := ⟨h.os, h.tape, h.output, h.size, h.block⟩
theorem quiet_left {P : Program} {f : FuncId} {args : Array Value} {w : World} {n : Nat} {v : Value}
    (h : Calls P f args (w.drewN n) fun e w' => e = .returned v ∧ w.drewN n = w') : Calls P f args (w.drewN n) fun e w'' => e = .returned v ∧ ∃ m, w'' = w.drewN m :=
  h.mono fun _ _ ⟨he, hm⟩ => ⟨he, n, hm.symm⟩

/-- v is a slice of n elements of sz cells each; cell j holds f j and is not frozen; the cells lie in a block from lo on and below hi -/
def Sl (w : World) (lo hi sz : Nat) (v : Value) (n : Nat) (f : Nat → Value) : Prop :=
  ∃ A c, v = .slice A n c ∧ n ≤ c ∧ c ≤ maxLen ∧
    (0 < n → ∃ b off, A = some ⟨b, off, none⟩ ∧ lo ≤ b ∧ b < hi ∧ ∀ j, j < n * sz → w.cell? ⟨b, off + j, none⟩ = some (f j) ∧ w.frozen? ⟨b, off + j, none⟩ = false)

section
variable {w w' : World} {lo hi lo' hi' sz n : Nat} {v : Value} {f g : Nat → Value}
theorem Sl.keep (h : Sl w lo hi sz v n f) (hk : ∀ k, lo ≤ k → k < hi → w'.heap[k]? = w.heap[k]?) : Sl w' lo hi sz v n f := by
  obtain ⟨A, c, e, h1, h2, h3⟩ := h
  refine ⟨A, c, e, h1, h2, fun hn => ?_⟩
  obtain ⟨b, off, e2, h4, h5, h6⟩ := h3 hn
  refine ⟨b, off, e2, h4, h5, fun j hj => ?_⟩
  have hb := hk b h4 h5
  rw [World.cell?_of_block (w := w) (w' := w') (a := ⟨b, off + j, none⟩) hb, World.frozen?_of_block (w := w) (w' := w') (a := ⟨b, off + j, none⟩) hb]
  exact h6 j hj
theorem Sl.mono (h : Sl w lo hi sz v n f) (h1 : lo' ≤ lo) (h2 : hi ≤ hi') : Sl w lo' hi' sz v n f := by
  obtain ⟨A, c, e, h1', h2', h3⟩ := h
  refine ⟨A, c, e, h1', h2', fun hn => ?_⟩
  obtain ⟨b, off, e2, h4, h5, h6⟩ := h3 hn
  exact ⟨b, off, e2, by omega, by omega, h6⟩
theorem Sl.congr (h : Sl w lo hi sz v n f) (e : ∀ j, j < n * sz → f j = g j) : Sl w lo hi sz v n g := by
  obtain ⟨A, c, e1, h1, h2, h3⟩ := h
  refine ⟨A, c, e1, h1, h2, fun hn => ?_⟩
  obtain ⟨b, off, e2, h4, h5, h6⟩ := h3 hn
  exact ⟨b, off, e2, h4, h5, fun j hj => by rw [← e j hj]; exact h6 j hj⟩
theorem Sl.below {B : Nat} (h : Sl w lo hi sz v n f) (hb : Below B w w') (hB : hi ≤ B) : Sl w' lo hi sz v n f := h.keep fun k _ hk => hb.block k (by omega)
theorem Sl.turned {l2 h2 : Nat} (h : Sl w lo hi sz v n f) (hb : Turned l2 h2 w w') (hB : hi ≤ w.heap.size) (hd : hi ≤ l2 ∨ h2 ≤ lo) : Sl w' lo hi sz v n f :=
  h.keep fun k h1 h2 => hb.block k (by omega) (by omega)
theorem Sl.drewN (h : Sl w lo hi sz v n f) (k : Nat) : Sl (w.drewN k) lo hi sz v n f := h
theorem Sl.drew (h : Sl w lo hi sz v n f) : Sl w.drew lo hi sz v n f := h
theorem Sl.alloc (h : Sl w lo hi sz v n f) (hB : hi ≤ w.heap.size) (o : Obj) : Sl (w.alloc o) lo hi sz v n f := h.keep fun k _ hk => Below.heap_alloc _ _ _ (by omega)
theorem Sl.setCell (h : Sl w lo hi sz v n f) {p : Addr} (hp : p.block < lo ∨ hi ≤ p.block) (u : Value) : Sl (w.setCell p u) lo hi sz v n f := h.keep fun k h1 h2 => Below.heap_setCell _ _ _ _ (by omega)
theorem Sl.nil (w : World) (lo hi sz : Nat) (f : Nat → Value) : Sl w lo hi sz (.slice none 0 0) 0 f := ⟨none, 0, rfl, Nat.le_refl _, by simp, fun h => absurd h (by omega)⟩
theorem Sl.at_ {b off c j : Nat} (h : Sl w lo hi sz (.slice (some ⟨b, off, none⟩) n c) n f) (hj : j < n * sz) : w.cell? ⟨b, off + j, none⟩ = some (f j) ∧ w.frozen? ⟨b, off + j, none⟩ = false := by
  obtain ⟨A, c', e, h1, h2, h3⟩ := h
  obtain ⟨b', off', e2, h4, h5, h6⟩ := h3 (by rcases Nat.eq_zero_or_pos n with h0 | h0 <;> simp_all)
  subst e2
  injection e with e _ _
  injection e with e
  injection e with e1 e2
  subst e1 e2
  exact h6 j hj
theorem Sl.set {b off c j : Nat} (h : Sl w lo hi sz (.slice (some ⟨b, off, none⟩) n c) n f) (hj : j < n * sz) (u : Value) :
    Sl (w.setCell ⟨b, off + j, none⟩ u) lo hi sz (.slice (some ⟨b, off, none⟩) n c) n (fun i => if i = j then u else f i) := by
  have hat := h.at_ hj
  obtain ⟨A, c', e, h1, h2, h3⟩ := h
  refine ⟨A, c', e, h1, h2, fun hn => ?_⟩
  obtain ⟨b', off', e2, h4, h5, h6⟩ := h3 hn
  subst e2
  injection e with e _ _
  injection e with e
  injection e with e1 e2
  subst e1 e2
  refine ⟨b, off, rfl, h4, h5, fun i hi => ?_⟩
  obtain ⟨hc, hf⟩ := h6 i hi
  show _ = some (if i = j then u else f i) ∧ _
  by_cases hij : i = j
  · subst hij
    rw [if_pos rfl]
    exact ⟨World.cell?_setCell_same _ _ _ hc, by rw [World.frozen?_setCell]; exact hf⟩
  · rw [if_neg hij]
    refine ⟨?_, by rw [World.frozen?_setCell]; exact hf⟩
    rw [World.cell?_setCell_other _ _ _ _ (by intro e; injection e with _ e _; omega)]
    exact hc
/-- a row that the call owns -/
theorem Sl.of_own {base : Nat} {e : TypeId} {xs : List Value} (h : w.ownsRow base e sz v n xs) (hf : ∀ j, j < n * sz → xs[j]? = some (f j)) : Sl w base w.heap.size sz v n f := by
  obtain ⟨h1, h2⟩ := h
  rcases h2 with ⟨rfl, rfl⟩ | ⟨g, cap, cur, rfl, hg, hh, hn, hm, hs, ht⟩
  · exact Sl.nil _ _ _ _ _
  · refine ⟨_, _, rfl, hn, hm, fun hpos => ⟨g, 0, rfl, hg, ?_, fun j hj => ?_⟩⟩
    · obtain ⟨hlt, _⟩ := Array.getElem?_eq_some_iff.1 hh
      exact hlt
    · have h3 : xs[j]? = some (f j) := hf j hj
      rw [← ht, List.getElem?_take_of_lt hj] at h3
      rw [Nat.zero_add]
      refine ⟨?_, by simp [World.frozen?, hh]⟩
      rw [cell_of_row w g j cur e (0, 0) hh]
      simpa using h3
/-- a row known whole -/
theorem Sl.of_row {b : Nat} {t : TypeId} {m c : Nat} (h : w.rowIs b t m f) (hlo : lo ≤ b) (hn : n * sz ≤ m) (hc : n ≤ c) (hm : c ≤ maxLen) : Sl w lo w.heap.size sz (.slice (some ⟨b, 0, none⟩) n c) n f := by
  refine ⟨_, _, rfl, hc, hm, fun hpos => ⟨b, 0, rfl, hlo, h.lt, fun j hj => ?_⟩⟩
  rw [Nat.zero_add]
  exact ⟨h.cell (by omega), h.frozen j⟩
end

/-- the block that a slice's elements lie in, if it has any -/
def rowOf (n : Nat) (v : Value) : Option Nat := if n = 0 then none else v.ownBlock
theorem Sl.row {w : World} {lo hi sz n : Nat} {v : Value} {f : Nat → Value} (h : Sl w lo hi sz v n f) : rowOf n v = none ∨ ∃ b, rowOf n v = some b ∧ lo ≤ b ∧ b < hi := by
  obtain ⟨A, c, rfl, h1, h2, h3⟩ := h
  unfold rowOf
  by_cases hn : n = 0
  · exact .inl (if_pos hn)
  · obtain ⟨b, off, rfl, h4, h5, _⟩ := h3 (by omega)
    exact .inr ⟨b, by rw [if_neg hn]; rfl, h4, h5⟩
/-- a reading stays where another row is written -/
theorem Sl.grown {w w' : World} {lo hi sz n : Nat} {v : Value} {f : Nat → Value} {row : Option Nat} (h : Sl w lo hi sz v n f) (hg : w.grownBy w' row) (hB : hi ≤ w.heap.size) (hne : rowOf n v = none ∨ rowOf n v ≠ row) : Sl w' lo hi sz v n f := by
  obtain ⟨A, c, rfl, h1, h2, h3⟩ := h
  refine ⟨A, c, rfl, h1, h2, fun hn => ?_⟩
  obtain ⟨b, off, rfl, h4, h5, h6⟩ := h3 hn
  refine ⟨b, off, rfl, h4, h5, fun j hj => ?_⟩
  have hr : rowOf n (.slice (some ⟨b, off, none⟩) n c) = some b := by unfold rowOf; rw [if_neg (by omega)]; rfl
  have hb := hg.block b (by omega) (by rw [hr] at hne; rcases hne with h | h; · cases h
                                       · exact h)
  rw [World.cell?_of_block (w := w) (w' := w') (a := ⟨b, off + j, none⟩) hb, World.frozen?_of_block (w := w) (w' := w') (a := ⟨b, off + j, none⟩) hb]
  exact h6 j hj

theorem rowOf_some {b off n c : Nat} (hn : 0 < n) : rowOf n (.slice (some ⟨b, off, none⟩) n c) = some b := by unfold rowOf; rw [if_neg (by omega)]; rfl
theorem Turned.of_row {w w' : World} {lo hi sz n : Nat} {v : Value} {f : Nat → Value} (h : Sl w lo hi sz v n f) (hg : w.grownBy w' (rowOf n v)) : Turned lo hi w w' := by
  refine ⟨hg.os, hg.tape, hg.output, hg.size, fun k hk ho => hg.block k hk ?_⟩
  rcases h.row with e | ⟨b, e, h1, h2⟩
  · rw [e]; simp
  · rw [e]; intro e2; injection e2; omega
theorem grownBy_setCell {a w : World} {g : Nat} (h : a.grownBy w (some g)) {p : Addr} (hp : p.block = g) (u : Value) : a.grownBy (w.setCell p u) (some g) :=
  ⟨h.os, h.tape, h.output, by simpa [World.setCell] using h.size, fun i hi hne => (Below.heap_setCell w p u i (by rintro rfl; exact hne (by rw [hp]))).trans (h.block i hi hne)⟩
theorem grownBy_trans {a b c : World} {row : Option Nat} (h : a.grownBy b row) (k : b.grownBy c row) : a.grownBy c row :=
  ⟨k.os.trans h.os, k.tape.trans h.tape, k.output.trans h.output, Nat.le_trans h.size k.size, fun i hi ho => (k.block i (Nat.lt_of_lt_of_le hi h.size) ho).trans (h.block i hi ho)⟩

/-- v reads as the list of integers zs -/
def IntS (w : World) (lo hi : Nat) (v : Value) (zs : List Int) : Prop := Sl w lo hi 1 v zs.length fun j => .int .i64 (nth zs j)

section
variable {w w' : World} {lo hi lo' hi' : Nat} {v : Value} {zs : List Int}
theorem IntS.form (h : IntS w lo hi v zs) : ∃ A c, v = .slice A zs.length c ∧ zs.length ≤ c ∧ c ≤ maxLen ∧
    (0 < zs.length → ∃ b off, A = some ⟨b, off, none⟩ ∧ lo ≤ b ∧ b < hi ∧ ∀ j, j < zs.length → w.cell? ⟨b, off + j, none⟩ = some (.int .i64 (nth zs j)) ∧ w.frozen? ⟨b, off + j, none⟩ = false) := by
  obtain ⟨A, c, e, h1, h2, h3⟩ := h
  simp only [Nat.mul_one] at h3
  exact ⟨A, c, e, h1, h2, h3⟩
theorem IntS.mono (h : IntS w lo hi v zs) (h1 : lo' ≤ lo) (h2 : hi ≤ hi') : IntS w lo' hi' v zs := Sl.mono h h1 h2
theorem IntS.below {B : Nat} (h : IntS w lo hi v zs) (hb : Below B w w') (hB : hi ≤ B) : IntS w' lo hi v zs := Sl.below h hb hB
theorem IntS.turned {l2 h2 : Nat} (h : IntS w lo hi v zs) (hb : Turned l2 h2 w w') (hB : hi ≤ w.heap.size) (hd : hi ≤ l2 ∨ h2 ≤ lo) : IntS w' lo hi v zs := Sl.turned h hb hB hd
theorem IntS.alloc (h : IntS w lo hi v zs) (hB : hi ≤ w.heap.size) (o : Obj) : IntS (w.alloc o) lo hi v zs := Sl.alloc h hB o
theorem IntS.setCell (h : IntS w lo hi v zs) {p : Addr} (hp : p.block < lo ∨ hi ≤ p.block) (u : Value) : IntS (w.setCell p u) lo hi v zs := Sl.setCell h hp u
theorem IntS.nil (w : World) (lo hi : Nat) : IntS w lo hi (.slice none 0 0) [] := Sl.nil _ _ _ _ _
theorem IntS.of_own {base : Nat} {e : TypeId} (h : w.ownsRow base e 1 v zs.length (zs.map (Value.int .i64))) : IntS w base w.heap.size v zs :=
  Sl.of_own h fun j hj => by rw [List.getElem?_map, nth_get? (by omega)]; rfl
end

end Go.Proofs.Ytcmmklcampmkjaa

/- Rows that a call owns and appends to, one cell an element; the law of an append of one element at the operation. No condition on any program; used by the walks of this seat. -/
namespace Go.Proofs.Ytcmmklcampmkjaa
open Go.RowKit

/-- v is a slice whose row the call owns, from block base on; it holds the one-cell values xs -/
def Own (w : World) (base : Nat) (e : TypeId) (v : Value) (xs : List Value) : Prop := w.ownsRow base e 1 v xs.length xs

theorem Own.nil (w : World) (base : Nat) (e : TypeId) : Own w base e (.slice none 0 0) [] := World.ownsRow_nil w base e 1
section
variable {w w' : World} {base : Nat} {e : TypeId} {v : Value} {xs : List Value}
theorem Own.kept {row : Option Nat} (h : Own w base e v xs) (hg : w.grownBy w' row) (hne : v.ownBlock = none ∨ v.ownBlock ≠ row) : Own w' base e v xs := World.ownsRow.kept h hg hne
theorem Own.alloc (h : Own w base e v xs) (o : Obj) : Own (w.alloc o) base e v xs := World.ownsRow.alloc h o
theorem Own.lt (h : Own w base e v xs) : ∀ k, v.ownBlock = some k → base ≤ k ∧ k < w.heap.size := World.ownsRow.lt h
theorem Own.form (h : Own w base e v xs) : ∃ A c, v = .slice A xs.length c ∧ xs.length ≤ c ∧ c ≤ maxLen ∧
    (0 < xs.length → ∃ b, A = some ⟨b, 0, none⟩ ∧ base ≤ b ∧ b < w.heap.size ∧ ∀ j u, xs[j]? = some u → w.cell? ⟨b, j, none⟩ = some u ∧ w.frozen? ⟨b, j, none⟩ = false) := by
  obtain ⟨h1, h2⟩ := h
  rcases h2 with ⟨rfl, hn⟩ | ⟨g, cap, cur, rfl, hg, hh, hn, hm, hs, ht⟩
  · rw [hn]
    exact ⟨_, _, rfl, Nat.le_refl _, by simp, fun h => absurd h (by omega)⟩
  · refine ⟨_, _, rfl, hn, hm, fun hpos => ⟨g, rfl, hg, (Array.getElem?_eq_some_iff.1 hh).1, fun j u hu => ?_⟩⟩
    have hj : j < xs.length := (List.getElem?_eq_some_iff.1 hu).1
    refine ⟨?_, by simp [World.frozen?, hh]⟩
    rw [cell_of_row w g j cur e (0, 0) hh]
    rw [← ht, List.getElem?_take_of_lt (by omega)] at hu
    simpa using hu
theorem Own.block (h : Own w base e v xs) : v.ownBlock = none ∨ ∃ g, v.ownBlock = some g ∧ base ≤ g ∧ g < w.heap.size := by
  cases hv : v.ownBlock with
  | none => exact .inl rfl
  | some g => exact .inr ⟨g, rfl, h.lt g hv⟩
end

/-- append of one element onto a row of the call's own, the element just laid in a block of its own -/
theorem append1 {P : Program} {ops : Array Oper} {rest : List Oper} {o : Oper} {a : Act} {Q : Exit → Act → World → Prop} {t e : TypeId} {z : Value} {bytes : Nat}
    (ht : P.underlying t = some (.slice e)) (hinfo : (P.info? e).map (fun i => (i.zero, i.size, i.bytes)) = some (some z, 1, bytes)) (hz1 : z.cells.size = 1) (hby : bytes ≤ 64)
    (w : World) (hgd : o.guard = none) {s : Operand} (x : Operand) (ho : o.op = .call { callee := .builtin .append, args := #[s, x], argTypes := #[t, t] })
    {base : Nat} {v : Value} {xs : List Value} (hown : Own w base e v xs) (u : Value) (te : TypeId) (hs : a.eval s = v) (hx : a.eval x = .slice (some ⟨w.heap.size, 0, none⟩) 1 1)
    (hu : u.oneCell' = true) (hlen : xs.length < 1099511627776) (hbase : base ≤ w.heap.size)
    (h : ∀ v' w', Own w' base e v' (xs ++ [u]) → w.grownBy w' v.ownBlock → (v'.ownBlock = v.ownBlock ∨ v'.ownBlock = some (w.heap.size + 1)) → wpList P ops Q rest (a.put o.dst v') w') :
    wpList P ops Q (o :: rest) a (w.alloc (.cells #[u] te)) := by
  obtain ⟨i, hi, hzz⟩ := Option.map_eq_some_iff.1 hinfo
  simp only [Prod.mk.injEq] at hzz
  obtain ⟨hz, hsz, hb⟩ := hzz
  refine wpList_append_own_at (w.alloc (.cells #[u] te)) hgd s x t ho base e i z 1 bytes ht hi hz hsz hb hz1 (by omega) v xs.length xs hs (World.ownsRow.alloc hown _) ⟨w.heap.size, 0, none⟩ 1 1 [u] hx rfl ?_ ?_ ?_ ?_ ?_ ?_
  · intro j u' hj
    match j, hj with
    | 0, hj =>
      simp only [List.getElem?_cons_zero, Option.some.injEq] at hj
      subst hj
      rw [show (⟨w.heap.size, 0, none⟩ : Addr).add 0 = ⟨w.heap.size, 0, none⟩ from rfl, World.cell?_alloc_at _ _ _ _ rfl]
      rfl
  · intro u' hu'
    simp only [List.mem_singleton] at hu'
    subst hu'
    exact hu
  · unfold maxLen; omega
  · have : (xs.length + 1) * bytes ≤ 1099511627776 * 64 := Nat.mul_le_mul (by omega) hby
    omega
  · simp; omega
  · intro v' w' h1 h2 _ h4
    refine h v' w' (by simpa [Own] using h1) ?_ (by simpa using h4)
    exact ⟨h2.os, h2.tape, h2.output, Nat.le_trans (by simp) h2.size, fun k hk hne => (h2.block k (by simp; omega) hne).trans (Below.heap_alloc _ _ _ hk)⟩

/-- rows of integers -/
def OwnI (w : World) (base : Nat) (e : TypeId) (v : Value) (zs : List Int) : Prop := Own w base e v (zs.map (Value.int .i64))
section
variable {w w' : World} {base : Nat} {e : TypeId} {v : Value} {zs : List Int}
theorem OwnI.nil (w : World) (base : Nat) (e : TypeId) : OwnI w base e (.slice none 0 0) [] := Own.nil w base e
theorem OwnI.kept {row : Option Nat} (h : OwnI w base e v zs) (hg : w.grownBy w' row) (hne : v.ownBlock = none ∨ v.ownBlock ≠ row) : OwnI w' base e v zs := Own.kept h hg hne
theorem OwnI.block (h : OwnI w base e v zs) : v.ownBlock = none ∨ ∃ g, v.ownBlock = some g ∧ base ≤ g ∧ g < w.heap.size := Own.block h
theorem OwnI.ints (h : OwnI w base e v zs) : IntS w base w.heap.size v zs := IntS.of_own (by simpa [OwnI, Own] using h)
theorem OwnI.lt (h : OwnI w base e v zs) : ∀ k, v.ownBlock = some k → base ≤ k ∧ k < w.heap.size := World.ownsRow.lt h
theorem OwnI.drewN (h : OwnI w base e v zs) (k : Nat) : OwnI (w.drewN k) base e v zs := h
end

theorem append_int {P : Program} {ops : Array Oper} {rest : List Oper} {o : Oper} {a : Act} {Q : Exit → Act → World → Prop} {t e : TypeId} {bytes : Nat}
    (ht : P.underlying t = some (.slice e)) (hinfo : (P.info? e).map (fun i => (i.zero, i.size, i.bytes)) = some (some (.int .i64 0), 1, bytes)) (hby : bytes ≤ 64)
    (w : World) (hgd : o.guard = none) {s : Operand} (x : Operand) (ho : o.op = .call { callee := .builtin .append, args := #[s, x], argTypes := #[t, t] })
    {base : Nat} {v : Value} {zs : List Int} (hown : OwnI w base e v zs) (z : Int) (te : TypeId) (hs : a.eval s = v) (hx : a.eval x = .slice (some ⟨w.heap.size, 0, none⟩) 1 1)
    (hlen : zs.length < 1099511627776) (hbase : base ≤ w.heap.size)
    (h : ∀ v' w', OwnI w' base e v' (zs ++ [z]) → w.grownBy w' v.ownBlock → (v'.ownBlock = v.ownBlock ∨ v'.ownBlock = some (w.heap.size + 1)) → wpList P ops Q rest (a.put o.dst v') w') :
    wpList P ops Q (o :: rest) a (w.alloc (.cells #[.int .i64 z] te)) :=
  append1 ht hinfo rfl hby w hgd x ho hown (.int .i64 z) te hs hx rfl (by simpa using hlen) hbase fun v' w' h1 h2 h3 => h v' w' (by unfold OwnI; simpa using h1) h2 h3

/-- two slices whose rows do not share a block -/
def Apart (v1 v2 : Value) : Prop := v1.ownBlock = none ∨ v2.ownBlock = none ∨ v1.ownBlock ≠ v2.ownBlock
theorem Apart.symm {v1 v2 : Value} (h : Apart v1 v2) : Apart v2 v1 := by
  rcases h with h | h | h
  · exact .inr (.inl h)
  · exact .inl h
  · exact .inr (.inr fun e => h e.symm)
theorem Apart.nil_left (v : Value) : Apart (.slice none 0 0) v := .inl rfl
theorem Apart.keeps {v1 v2 : Value} (h : Apart v1 v2) : v1.ownBlock = none ∨ v1.ownBlock ≠ v2.ownBlock := by
  rcases h with h | h | h
  · exact .inl h
  · cases hv : v1.ownBlock with
    | none => exact .inl rfl
    | some g => right; rw [h]; simp
  · exact .inr h
/-- the second row has grown: its block is the old one or a new one -/
theorem Apart.grow {w : World} {base : Nat} {e : TypeId} {v1 v2 v2' : Value} {xs : List Value} (h : Apart v1 v2) (ho : Own w base e v1 xs) {g : Nat} (hg : w.heap.size ≤ g) (hat : v2'.ownBlock = v2.ownBlock ∨ v2'.ownBlock = some g) : Apart v1 v2' := by
  rcases hat with e | e
  · unfold Apart; rw [e]; exact h
  · right; right; rw [e]; intro h3; have := (ho.lt _ h3).2; omega

/-- a map whose reading answers as the function f does, with n keys -/
structure LMap (D : DataW Unit) (f : Lit → Option Int) (n : Nat) : Prop where
  tidy : Maps.Tidy D
  size : Maps.size D = n
  has : ∀ k, WideAt.IsKeyLit k → Maps.has D k = (f k).isSome
  at_ : ∀ k, WideAt.IsKeyLit k → D.atKey k (.lit (.int .i64 0)) = .lit (.int .i64 ((f k).getD 0))

theorem LMap.empty : LMap (.map []) (fun _ => none) 0 := ⟨Maps.tidy_empty, rfl, fun _ _ => rfl, fun _ _ => rfl⟩
theorem LMap.put {D : DataW Unit} {f g : Lit → Option Int} {n m : Nat} (h : LMap D f n) {k : Lit} (hk : WideAt.IsKeyLit k) (v : Int) (h1 : g k = some v) (h2 : ∀ x, x ≠ k → g x = f x) (hm : m = if (f k).isSome then n else n + 1) :
    LMap (D.put k (.lit (.int .i64 v))) g m := by
  subst hm
  refine ⟨h.tidy.put hk _, ?_, fun x hx => ?_, fun x hx => ?_⟩
  · rw [Maps.size_put h.tidy, h.has k hk, h.size]
  · by_cases e : x = k
    · subst e; rw [Maps.has_put_same h.tidy.isMap hk, h1]; rfl
    · rw [Maps.has_put_other e, h.has x hx, h2 x e]
  · by_cases e : x = k
    · subst e; rw [Maps.atKey_put_same h.tidy.isMap hk, h1]; rfl
    · rw [Maps.atKey_put_other e, h.at_ x hx, h2 x e]
theorem LMap.congr {D : DataW Unit} {f g : Lit → Option Int} {n m : Nat} (h : LMap D f n) (e : ∀ k, f k = g k) (hn : n = m) : LMap D g m := by
  obtain rfl : f = g := funext e
  subst hn
  exact h

end Go.Proofs.Ytcmmklcampmkjaa

/- Words for memory, continued: slices of pairs (ends), slices of slices, networks; kept over new blocks and over writes elsewhere. No condition on any program. -/
namespace Go.Proofs.Ytcmmklcampmkjaa
open Go.RowKit

/-- element i of a list of lists; the empty list past its end -/
def nthL {α : Type} (l : List (List α)) (i : Nat) : List α := l.getD i []
theorem nthL_eq {α : Type} {l : List (List α)} {i : Nat} (h : i < l.length) : nthL l i = l[i] := by simp [nthL, h]
theorem ext_nthL {α : Type} {a b : List (List α)} (hl : a.length = b.length) (h : ∀ i, i < a.length → nthL a i = nthL b i) : a = b := by
  apply List.ext_getElem hl
  intro i h1 h2
  have := h i h1
  rwa [nthL_eq h1, nthL_eq h2] at this

/-- element i of a list of pairs -/
def nthE (l : List (Int × Int)) (i : Nat) : Int × Int := l.getD i (0, 0)
theorem nthE_eq {l : List (Int × Int)} {i : Nat} (h : i < l.length) : nthE l i = l[i] := by simp [nthE, h]
theorem nthE_cons_zero (x : Int × Int) (l : List (Int × Int)) : nthE (x :: l) 0 = x := rfl
theorem nthE_cons_succ (x : Int × Int) (l : List (Int × Int)) (i : Nat) : nthE (x :: l) (i + 1) = nthE l i := rfl
/-- the cells of a row of pairs -/
def endCell (es : List (Int × Int)) (j : Nat) : Value := .int .i64 (if j % 2 = 0 then (nthE es (j / 2)).1 else (nthE es (j / 2)).2)
theorem endCell_fst (es : List (Int × Int)) (k : Nat) : endCell es (k * 2) = .int .i64 (nthE es k).1 := by
  unfold endCell; rw [if_pos (by omega), show k * 2 / 2 = k by omega]
theorem endCell_snd (es : List (Int × Int)) (k : Nat) : endCell es (k * 2 + 1) = .int .i64 (nthE es k).2 := by
  unfold endCell; rw [if_neg (by omega), show (k * 2 + 1) / 2 = k by omega]

/-- make of a row of pairs -/
theorem make_pairs {P : Program} (t e : TypeId) (ht : P.underlying t = some (.slice e)) (hinfo : (P.info? e).map (fun i => (i.zero, i.size, i.bytes)) = some (some (.agg #[.int .i64 0, .int .i64 0]), 2, 16))
    (n : Nat) (hn : n ≤ 1099511627776) (w : World) :
    (Instr.makeSlice t (.int .i64 (n : Int)) (.int .i64 (n : Int))).run P w = .ok (.slice (some ⟨w.heap.size, 0, none⟩) n n) (w.alloc (.cells (madeCells #[.int .i64 0, .int .i64 0] (n * 2)) e)) := by
  obtain ⟨i, hi, hzz⟩ := Option.map_eq_some_iff.1 hinfo
  simp only [Prod.mk.injEq] at hzz
  obtain ⟨hz, hsz, hb⟩ := hzz
  have hr := run_make (P := P) w t e i _ ht hi hz .i64 .i64 n n (by omega) (by omega) (by rw [hb]; omega) (by omega)
  simp only [Int.toNat_natCast, hsz] at hr
  exact hr
theorem rowIs_pairs (w : World) (n : Nat) (t : TypeId) : (w.alloc (.cells (madeCells #[.int .i64 0, .int .i64 0] (n * 2)) t)).rowIs w.heap.size t (n * 2) (fun _ => .int .i64 0) := by
  refine ⟨_, (World.rowIs_made w (.int .i64 0) 0 t).lt |> fun _ => heap_alloc_new w _, size_madeCells _ _, fun i hi => ?_⟩
  have h2 : i % 2 = 0 ∨ i % 2 = 1 := by omega
  rcases h2 with h2 | h2 <;> simp [madeCells, hi, h2]

/-- v reads as the list of pairs es -/
def EndS (w : World) (lo hi : Nat) (v : Value) (es : List (Int × Int)) : Prop := Sl w lo hi 2 v es.length (endCell es)

section
variable {w w' : World} {lo hi lo' hi' : Nat} {v : Value} {es : List (Int × Int)}
theorem EndS.form (h : EndS w lo hi v es) : ∃ A c, v = .slice A es.length c ∧ es.length ≤ c ∧ c ≤ maxLen ∧
    (0 < es.length → ∃ b off, A = some ⟨b, off, none⟩ ∧ lo ≤ b ∧ b < hi ∧ ∀ k, k < es.length → w.cell? ⟨b, off + k * 2, none⟩ = some (.int .i64 (nthE es k).1) ∧ w.cell? ⟨b, off + k * 2 + 1, none⟩ = some (.int .i64 (nthE es k).2)) := by
  obtain ⟨A, c, e, h1, h2, h3⟩ := h
  refine ⟨A, c, e, h1, h2, fun hn => ?_⟩
  obtain ⟨b, off, e2, h4, h5, h6⟩ := h3 hn
  refine ⟨b, off, e2, h4, h5, fun k hk => ⟨?_, ?_⟩⟩
  · rw [← endCell_fst]; exact (h6 (k * 2) (by omega)).1
  · rw [← endCell_snd, Nat.add_assoc]; exact (h6 (k * 2 + 1) (by omega)).1
theorem EndS.mono (h : EndS w lo hi v es) (h1 : lo' ≤ lo) (h2 : hi ≤ hi') : EndS w lo' hi' v es := Sl.mono h h1 h2
theorem EndS.below {B : Nat} (h : EndS w lo hi v es) (hb : Below B w w') (hB : hi ≤ B) : EndS w' lo hi v es := Sl.below h hb hB
theorem EndS.keep (h : EndS w lo hi v es) (hk : ∀ k, lo ≤ k → k < hi → w'.heap[k]? = w.heap[k]?) : EndS w' lo hi v es := Sl.keep h hk
theorem EndS.turned {l2 h2 : Nat} (h : EndS w lo hi v es) (hb : Turned l2 h2 w w') (hB : hi ≤ w.heap.size) (hd : hi ≤ l2 ∨ h2 ≤ lo) : EndS w' lo hi v es := Sl.turned h hb hB hd
theorem EndS.setCell (h : EndS w lo hi v es) {p : Addr} (hp : p.block < lo ∨ hi ≤ p.block) (u : Value) : EndS (w.setCell p u) lo hi v es := Sl.setCell h hp u
theorem EndS.nil (w : World) (lo hi : Nat) : EndS w lo hi (.slice none 0 0) [] := Sl.nil _ _ _ _ _
end

/-- a slice of slices: element i is the slice vs i, which reads (by R) as xss i -/
def SS {α : Type} (R : World → Nat → Nat → Value → List α → Prop) (w : World) (lo hi : Nat) (v : Value) (xss : List (List α)) : Prop :=
  ∃ vs : Nat → Value, Sl w lo hi 1 v xss.length vs ∧ ∀ i, i < xss.length → R w lo hi (vs i) (nthL xss i)
/-- the same, and no two of its rows share a block -/
def SSx {α : Type} (R : World → Nat → Nat → Value → List α → Prop) (w : World) (lo hi : Nat) (v : Value) (xss : List (List α)) : Prop :=
  ∃ vs : Nat → Value, Sl w lo hi 1 v xss.length vs ∧ (∀ i, i < xss.length → R w lo hi (vs i) (nthL xss i)) ∧
    (∀ i j, i < j → j < xss.length → rowOf (nthL xss i).length (vs i) = none ∨ rowOf (nthL xss i).length (vs i) ≠ rowOf (nthL xss j).length (vs j)) ∧
    (∀ i, i < xss.length → rowOf (nthL xss i).length (vs i) = none ∨ rowOf (nthL xss i).length (vs i) ≠ rowOf xss.length v)
theorem SSx.ss {α : Type} {R : World → Nat → Nat → Value → List α → Prop} {w : World} {lo hi : Nat} {v : Value} {xss : List (List α)} (h : SSx R w lo hi v xss) : SS R w lo hi v xss :=
  let ⟨vs, h1, h2, _, _⟩ := h; ⟨vs, h1, h2⟩

section
variable {α : Type} {R : World → Nat → Nat → Value → List α → Prop} {w w' : World} {lo hi lo' hi' : Nat} {v : Value} {xss : List (List α)}
theorem SS.keep (hR : ∀ {v xs}, R w lo hi v xs → R w' lo hi v xs) (h : SS R w lo hi v xss) (hk : ∀ k, lo ≤ k → k < hi → w'.heap[k]? = w.heap[k]?) : SS R w' lo hi v xss := by
  obtain ⟨vs, h1, h2⟩ := h
  exact ⟨vs, h1.keep hk, fun i hi => hR (h2 i hi)⟩
theorem SSx.keep (hR : ∀ {v xs}, R w lo hi v xs → R w' lo hi v xs) (h : SSx R w lo hi v xss) (hk : ∀ k, lo ≤ k → k < hi → w'.heap[k]? = w.heap[k]?) : SSx R w' lo hi v xss := by
  obtain ⟨vs, h1, h2, h3, h4⟩ := h
  exact ⟨vs, h1.keep hk, fun i hi => hR (h2 i hi), h3, h4⟩
theorem SS.mono (hR : ∀ {v xs}, R w lo hi v xs → R w lo' hi' v xs) (h : SS R w lo hi v xss) (h1 : lo' ≤ lo) (h2 : hi ≤ hi') : SS R w lo' hi' v xss := by
  obtain ⟨vs, h3, h4⟩ := h
  exact ⟨vs, h3.mono h1 h2, fun i hi => hR (h4 i hi)⟩
theorem SSx.mono (hR : ∀ {v xs}, R w lo hi v xs → R w lo' hi' v xs) (h : SSx R w lo hi v xss) (h1 : lo' ≤ lo) (h2 : hi ≤ hi') : SSx R w lo' hi' v xss := by
  obtain ⟨vs, h3, h4, h5, h6⟩ := h
  exact ⟨vs, h3.mono h1 h2, fun i hi => hR (h4 i hi), h5, h6⟩
theorem SS.form (h : SS R w lo hi v xss) : ∃ A c, v = .slice A xss.length c ∧ xss.length ≤ c ∧ c ≤ maxLen ∧
    (0 < xss.length → ∃ b off, A = some ⟨b, off, none⟩ ∧ lo ≤ b ∧ b < hi ∧ ∀ k, k < xss.length → ∃ u, w.cell? ⟨b, off + k, none⟩ = some u ∧ R w lo hi u (nthL xss k)) := by
  obtain ⟨vs, ⟨A, c, e, h1, h2, h3⟩, h4⟩ := h
  refine ⟨A, c, e, h1, h2, fun hn => ?_⟩
  obtain ⟨b, off, e2, h5, h6, h7⟩ := h3 hn
  exact ⟨b, off, e2, h5, h6, fun k hk => ⟨vs k, (h7 k (by omega)).1, h4 k hk⟩⟩
theorem SS.nil (w : World) (lo hi : Nat) : SS R w lo hi (.slice none 0 0) [] := ⟨fun _ => undef, Sl.nil _ _ _ _ _, fun i hi => absurd hi (by simp)⟩
theorem SSx.nil (w : World) (lo hi : Nat) : SSx R w lo hi (.slice none 0 0) [] := ⟨fun _ => undef, Sl.nil _ _ _ _ _, fun i hi => absurd hi (by simp), fun i j _ hj => absurd hj (by simp), fun i hi => absurd hi (by simp)⟩
end

abbrev IntSS := SS IntS
abbrev IntSSx := SSx IntS
abbrev EndSS := SS EndS
abbrev EndSSx := SSx EndS
section
variable {w w' : World} {lo hi lo' hi' B l2 h2 : Nat} {v : Value} {xss : List (List Int)} {ess : List (List (Int × Int))}
theorem IntS.keep {zs : List Int} (h : IntS w lo hi v zs) (hk : ∀ k, lo ≤ k → k < hi → w'.heap[k]? = w.heap[k]?) : IntS w' lo hi v zs := Sl.keep h hk
theorem ISS.below (h : IntSS w lo hi v xss) (hb : Below B w w') (hB : hi ≤ B) : IntSS w' lo hi v xss := SS.keep (fun h => IntS.below h hb hB) h fun k _ hk => hb.block k (by omega)
theorem ISSx.below (h : IntSSx w lo hi v xss) (hb : Below B w w') (hB : hi ≤ B) : IntSSx w' lo hi v xss := SSx.keep (fun h => IntS.below h hb hB) h fun k _ hk => hb.block k (by omega)
theorem ESS.below (h : EndSS w lo hi v ess) (hb : Below B w w') (hB : hi ≤ B) : EndSS w' lo hi v ess := SS.keep (fun h => EndS.below h hb hB) h fun k _ hk => hb.block k (by omega)
theorem ESSx.below (h : EndSSx w lo hi v ess) (hb : Below B w w') (hB : hi ≤ B) : EndSSx w' lo hi v ess := SSx.keep (fun h => EndS.below h hb hB) h fun k _ hk => hb.block k (by omega)
theorem ISS.turned (h : IntSS w lo hi v xss) (hb : Turned l2 h2 w w') (hB : hi ≤ w.heap.size) (hd : hi ≤ l2 ∨ h2 ≤ lo) : IntSS w' lo hi v xss := SS.keep (fun h => IntS.turned h hb hB hd) h fun k h1 hk => hb.block k (by omega) (by omega)
theorem ISSx.turned (h : IntSSx w lo hi v xss) (hb : Turned l2 h2 w w') (hB : hi ≤ w.heap.size) (hd : hi ≤ l2 ∨ h2 ≤ lo) : IntSSx w' lo hi v xss := SSx.keep (fun h => IntS.turned h hb hB hd) h fun k h1 hk => hb.block k (by omega) (by omega)
theorem ESS.turned (h : EndSS w lo hi v ess) (hb : Turned l2 h2 w w') (hB : hi ≤ w.heap.size) (hd : hi ≤ l2 ∨ h2 ≤ lo) : EndSS w' lo hi v ess := SS.keep (fun h => EndS.turned h hb hB hd) h fun k h1 hk => hb.block k (by omega) (by omega)
theorem ESSx.turned (h : EndSSx w lo hi v ess) (hb : Turned l2 h2 w w') (hB : hi ≤ w.heap.size) (hd : hi ≤ l2 ∨ h2 ≤ lo) : EndSSx w' lo hi v ess := SSx.keep (fun h => EndS.turned h hb hB hd) h fun k h1 hk => hb.block k (by omega) (by omega)
theorem ISS.setCell (h : IntSS w lo hi v xss) {p : Addr} (hp : p.block < lo ∨ hi ≤ p.block) (u : Value) : IntSS (w.setCell p u) lo hi v xss := SS.keep (fun h => IntS.setCell h hp u) h fun k h1 h2 => Below.heap_setCell _ _ _ _ (by omega)
theorem ISSx.setCell (h : IntSSx w lo hi v xss) {p : Addr} (hp : p.block < lo ∨ hi ≤ p.block) (u : Value) : IntSSx (w.setCell p u) lo hi v xss := SSx.keep (fun h => IntS.setCell h hp u) h fun k h1 h2 => Below.heap_setCell _ _ _ _ (by omega)
theorem ESS.setCell (h : EndSS w lo hi v ess) {p : Addr} (hp : p.block < lo ∨ hi ≤ p.block) (u : Value) : EndSS (w.setCell p u) lo hi v ess := SS.keep (fun h => EndS.setCell h hp u) h fun k h1 h2 => Below.heap_setCell _ _ _ _ (by omega)
theorem ESSx.setCell (h : EndSSx w lo hi v ess) {p : Addr} (hp : p.block < lo ∨ hi ≤ p.block) (u : Value) : EndSSx (w.setCell p u) lo hi v ess := SSx.keep (fun h => EndS.setCell h hp u) h fun k h1 h2 => Below.heap_setCell _ _ _ _ (by omega)
theorem ISS.mono (h : IntSS w lo hi v xss) (h1 : lo' ≤ lo) (h2 : hi ≤ hi') : IntSS w lo' hi' v xss := SS.mono (fun h => IntS.mono h h1 h2) h h1 h2
theorem ISSx.mono (h : IntSSx w lo hi v xss) (h1 : lo' ≤ lo) (h2 : hi ≤ hi') : IntSSx w lo' hi' v xss := SSx.mono (fun h => IntS.mono h h1 h2) h h1 h2
theorem ESS.mono (h : EndSS w lo hi v ess) (h1 : lo' ≤ lo) (h2 : hi ≤ hi') : EndSS w lo' hi' v ess := SS.mono (fun h => EndS.mono h h1 h2) h h1 h2
theorem ESSx.mono (h : EndSSx w lo hi v ess) (h1 : lo' ≤ lo) (h2 : hi ≤ hi') : EndSSx w lo' hi' v ess := SSx.mono (fun h => EndS.mono h h1 h2) h h1 h2
end

theorem IntS.shape {w : World} {lo hi : Nat} {v : Value} {zs : List Int} (h : IntS w lo hi v zs) : ∃ A c, v = .slice A zs.length c := let ⟨A, c, e, _⟩ := h; ⟨A, c, e⟩
theorem EndS.shape {w : World} {lo hi : Nat} {v : Value} {es : List (Int × Int)} (h : EndS w lo hi v es) : ∃ A c, v = .slice A es.length c := let ⟨A, c, e, _⟩ := h; ⟨A, c, e⟩
theorem SS.shape {α : Type} {R : World → Nat → Nat → Value → List α → Prop} {w : World} {lo hi : Nat} {v : Value} {xss : List (List α)} (h : SS R w lo hi v xss) : ∃ A c, v = .slice A xss.length c := let ⟨_, ⟨A, c, e, _⟩, _⟩ := h; ⟨A, c, e⟩
/-- a block of three cells, known whole -/
def Box3 (w : World) (g : Nat) (t : TypeId) (a b c : Value) : Prop := w.heap[g]? = some (.cells #[a, b, c] t (0, 0))
section
variable {w w' : World} {g : Nat} {t : TypeId} {a b c : Value}
theorem Box3.lt (h : Box3 w g t a b c) : g < w.heap.size := (Array.getElem?_eq_some_iff.1 h).1
theorem Box3.cells (h : Box3 w g t a b c) : w.cell? ⟨g, 0, none⟩ = some a ∧ w.cell? ⟨g, 1, none⟩ = some b ∧ w.cell? ⟨g, 2, none⟩ = some c := by
  refine ⟨?_, ?_, ?_⟩ <;> rw [cell_of_row w g _ _ t (0, 0) h] <;> rfl
theorem Box3.frozen (h : Box3 w g t a b c) (i : Nat) : w.frozen? ⟨g, i, none⟩ = false := by
  have h' : w.heap[g]? = some (.cells #[a, b, c] t (0, 0)) := h
  simp [World.frozen?, h']
theorem Box3.new (w : World) (t : TypeId) (a b c : Value) : Box3 (w.alloc (.cells #[a, b, c] t)) w.heap.size t a b c := heap_alloc_new w _
theorem Box3.alloc (h : Box3 w g t a b c) (o : Obj) : Box3 (w.alloc o) g t a b c := (Below.heap_alloc w o g h.lt).trans h
theorem Box3.below {B : Nat} (h : Box3 w g t a b c) (hb : Below B w w') (hg : g < B) : Box3 w' g t a b c := (hb.block g hg).trans h
theorem Box3.far (h : Box3 w g t a b c) {p : Addr} (hp : g ≠ p.block) (u : Value) : Box3 (w.setCell p u) g t a b c := (Below.heap_setCell w p u g hp).trans h
theorem Box3.set0 (h : Box3 w g t a b c) (u : Value) : Box3 (w.setCell ⟨g, 0, none⟩ u) g t u b c := by
  have h' : w.heap[g]? = some (.cells #[a, b, c] t (0, 0)) := h
  simp [Box3, World.setCell, Array.getElem?_modify, h']
theorem Box3.set1 (h : Box3 w g t a b c) (u : Value) : Box3 (w.setCell ⟨g, 1, none⟩ u) g t a u c := by
  have h' : w.heap[g]? = some (.cells #[a, b, c] t (0, 0)) := h
  simp [Box3, World.setCell, Array.getElem?_modify, h']
theorem Box3.set2 (h : Box3 w g t a b c) (u : Value) : Box3 (w.setCell ⟨g, 2, none⟩ u) g t a b u := by
  have h' : w.heap[g]? = some (.cells #[a, b, c] t (0, 0)) := h
  simp [Box3, World.setCell, Array.getElem?_modify, h']
end
theorem size_setCell (w : World) (p : Addr) (u : Value) : (w.setCell p u).heap.size = w.heap.size := by simp [World.setCell]

/-- a network as data -/
structure NetD where
  ends : List (List (Int × Int))
  ids : List Int
  inputs : List Int

/-- v is a network in memory -/
def Net (w : World) (lo hi : Nat) (v : Value) (N : NetD) : Prop :=
  ∃ ve vi vn, v = .agg #[ve, vi, vn] ∧ EndSS w lo hi ve N.ends ∧ IntS w lo hi vi N.ids ∧ IntS w lo hi vn N.inputs
/-- the same, its parts one behind the other, no two rows in one block -/
def NetX (w : World) (lo hi : Nat) (v : Value) (N : NetD) : Prop :=
  ∃ ve vi vn m1 m2, v = .agg #[ve, vi, vn] ∧ lo ≤ m1 ∧ m1 ≤ m2 ∧ m2 ≤ hi ∧ EndSSx w lo m1 ve N.ends ∧ IntS w m1 m2 vi N.ids ∧ IntS w m2 hi vn N.inputs
section
variable {w w' : World} {lo hi lo' hi' B l2 h2 : Nat} {v : Value} {N : NetD}
theorem NetX.net (h : NetX w lo hi v N) : Net w lo hi v N := by
  obtain ⟨ve, vi, vn, m1, m2, rfl, a1, a2, a3, h1, h2, h3⟩ := h
  exact ⟨ve, vi, vn, rfl, ESS.mono h1.ss (Nat.le_refl _) (by omega), h2.mono (by omega) a3, h3.mono (by omega) (Nat.le_refl _)⟩
theorem Net.below (h : Net w lo hi v N) (hb : Below B w w') (hB : hi ≤ B) : Net w' lo hi v N := by
  obtain ⟨ve, vi, vn, rfl, h1, h2, h3⟩ := h
  exact ⟨ve, vi, vn, rfl, ESS.below h1 hb hB, h2.below hb hB, h3.below hb hB⟩
theorem Net.turned (h : Net w lo hi v N) (hb : Turned l2 h2 w w') (hB : hi ≤ w.heap.size) (hd : hi ≤ l2 ∨ h2 ≤ lo) : Net w' lo hi v N := by
  obtain ⟨ve, vi, vn, rfl, h1, h2, h3⟩ := h
  exact ⟨ve, vi, vn, rfl, ESS.turned h1 hb hB hd, h2.turned hb hB hd, h3.turned hb hB hd⟩
theorem Net.mono (h : Net w lo hi v N) (h1 : lo' ≤ lo) (h2 : hi ≤ hi') : Net w lo' hi' v N := by
  obtain ⟨ve, vi, vn, rfl, a, b, c⟩ := h
  exact ⟨ve, vi, vn, rfl, ESS.mono a h1 h2, b.mono h1 h2, c.mono h1 h2⟩
theorem NetX.below (h : NetX w lo hi v N) (hb : Below B w w') (hB : hi ≤ B) : NetX w' lo hi v N := by
  obtain ⟨ve, vi, vn, m1, m2, rfl, a1, a2, a3, h1, h2, h3⟩ := h
  exact ⟨ve, vi, vn, m1, m2, rfl, a1, a2, a3, ESSx.below h1 hb (by omega), h2.below hb (by omega), h3.below hb hB⟩
theorem NetX.turned (h : NetX w lo hi v N) (hb : Turned l2 h2 w w') (hB : hi ≤ w.heap.size) (hd : hi ≤ l2 ∨ h2 ≤ lo) : NetX w' lo hi v N := by
  obtain ⟨ve, vi, vn, m1, m2, rfl, a1, a2, a3, h1, h2, h3⟩ := h
  exact ⟨ve, vi, vn, m1, m2, rfl, a1, a2, a3, ESSx.turned h1 hb (by omega) (by omega), h2.turned hb (by omega) (by omega), h3.turned hb hB (by omega)⟩
end

end Go.Proofs.Ytcmmklcampmkjaa

/- Plain: the walk of a token through a network; it ends, and it is short. No condition on any program. -/
namespace Go.Proofs.Ytcmmklcampmkjaa
set_option linter.unusedVariables false

def setU (u : Int → Int → Bool) (a b : Int) : Int → Int → Bool := fun x y => (x == a && y == b) || u x y
def endAt (N : NetD) (v i : Nat) : Int × Int := nthE (nthL N.ends v) i
def degAt (N : NetD) (v : Nat) : Nat := (nthL N.ends v).length
/-- the places where a port may lie -/
def grid : List (Nat × Nat) := (List.range 40).flatMap fun v => (List.range 6).map fun i => (v, i)
theorem grid_len : grid.length = 240 := by decide +kernel
theorem mem_grid {v i : Nat} (hv : v < 40) (hi : i < 6) : (v, i) ∈ grid := by
  unfold grid
  rw [List.mem_flatMap]
  exact ⟨v, List.mem_range.2 hv, List.mem_map.2 ⟨i, List.mem_range.2 hi, rfl⟩⟩
def free (u : Int → Int → Bool) : Nat := (grid.filter fun p => !u p.1 p.2).length
end Go.Proofs.Ytcmmklcampmkjaa

/- A queue of numbers that the call owns: it is cut at its head and appended to at its end. No condition on any program. -/
namespace Go.Proofs.Ytcmmklcampmkjaa
open Go.RowKit

theorem nth_set (zs : List Int) (j i : Nat) (z : Int) (hj : j < zs.length) : nth (zs.set j z) i = if i = j then z else nth zs i := by
  unfold nth
  simp only [List.getD_eq_getElem?_getD, List.getElem?_set]
  by_cases e : j = i
  · subst e; simp [hj]
  · rw [if_neg e, if_neg (fun h => e h.symm)]
theorem nth_drop (zs : List Int) (a i : Nat) : nth (zs.drop a) i = nth zs (a + i) := by simp [nth]
theorem nth_replicate (n : Nat) (x : Int) {i : Nat} (h : i < n) : nth (List.replicate n x) i = x := by rw [nth_eq (by simpa using h)]; simp
/-- a store into a row of numbers -/
theorem IntS.set {w : World} {lo hi b off n c : Nat} {zs : List Int} (h : IntS w lo hi (.slice (some ⟨b, off, none⟩) n c) zs) {j : Nat} (hj : j < zs.length) (z : Int) :
    IntS (w.setCell ⟨b, off + j, none⟩ (.int .i64 z)) lo hi (.slice (some ⟨b, off, none⟩) n c) (zs.set j z) := by
  obtain ⟨A, c', e, _⟩ := h.form
  injection e with e1 e2 e3
  subst e2
  have := Sl.set h (j := j) (by omega) (.int .i64 z)
  unfold IntS
  rw [List.length_set]
  exact this.congr fun i hi => by
    rw [nth_set _ _ _ _ hj]
    by_cases e : i = j <;> simp [e]
theorem IntS.at_ {w : World} {lo hi b off n c : Nat} {zs : List Int} (h : IntS w lo hi (.slice (some ⟨b, off, none⟩) n c) zs) {j : Nat} (hj : j < zs.length) :
    w.cell? ⟨b, off + j, none⟩ = some (.int .i64 (nth zs j)) ∧ w.frozen? ⟨b, off + j, none⟩ = false := by
  obtain ⟨A, c', e, _⟩ := h.form
  injection e with e1 e2 e3
  subst e2
  exact Sl.at_ h (by omega)

theorem IntS.set0 {w : World} {lo hi b n c : Nat} {zs : List Int} (h : IntS w lo hi (.slice (some ⟨b, 0, none⟩) n c) zs) {j : Nat} (hj : j < zs.length) (z : Int) :
    IntS (w.setCell ⟨b, j, none⟩ (.int .i64 z)) lo hi (.slice (some ⟨b, 0, none⟩) n c) (zs.set j z) := by
  have := h.set hj z
  rwa [Nat.zero_add] at this
theorem IntS.at0 {w : World} {lo hi b n c : Nat} {zs : List Int} (h : IntS w lo hi (.slice (some ⟨b, 0, none⟩) n c) zs) {j : Nat} (hj : j < zs.length) :
    w.cell? ⟨b, j, none⟩ = some (.int .i64 (nth zs j)) ∧ w.frozen? ⟨b, j, none⟩ = false := by
  have := h.at_ hj
  rwa [Nat.zero_add] at this

/-- rows elsewhere stay where one row grows -/
theorem IntS.far {w w' : World} {lo hi : Nat} {v : Value} {zs : List Int} {row : Option Nat} (h : IntS w lo hi v zs) (hg : w.grownBy w' row) (hB : hi ≤ w.heap.size) (hr : ∀ g, row = some g → g < lo ∨ hi ≤ g) : IntS w' lo hi v zs :=
  Sl.keep h fun k h1 h2 => hg.block k (by omega) (fun e => by have := hr k e.symm; omega)

/-- v is a queue that reads as zs; all cells up to its capacity are there and can be written; it lies in a block from base on -/
def OwnQ (w : World) (base : Nat) (v : Value) (zs : List Int) : Prop :=
  ∃ g off c, v = .slice (some ⟨g, off, none⟩) zs.length c ∧ zs.length ≤ c ∧ c ≤ maxLen ∧ base ≤ g ∧ g < w.heap.size ∧
    (∀ j, j < zs.length → w.cell? ⟨g, off + j, none⟩ = some (.int .i64 (nth zs j))) ∧ ∀ j, j < c → (w.cell? ⟨g, off + j, none⟩).isSome = true ∧ w.frozen? ⟨g, off + j, none⟩ = false

section
variable {w w' : World} {base : Nat} {v : Value} {zs : List Int}
theorem OwnQ.keep (h : OwnQ w base v zs) (hk : ∀ k, base ≤ k → k < w.heap.size → w'.heap[k]? = w.heap[k]?) (hs : w.heap.size ≤ w'.heap.size) : OwnQ w' base v zs := by
  obtain ⟨g, off, c, rfl, h1, h2, h3, h4, h5, h6⟩ := h
  have e := hk g h3 h4
  refine ⟨g, off, c, rfl, h1, h2, h3, by omega, fun j hj => (World.cell?_of_block (a := ⟨g, off + j, none⟩) e).trans (h5 j hj), fun j hj => ?_⟩
  rw [World.cell?_of_block (w := w) (w' := w') (a := ⟨g, off + j, none⟩) e, World.frozen?_of_block (w := w) (w' := w') (a := ⟨g, off + j, none⟩) e]
  exact h6 j hj
theorem OwnQ.alloc (h : OwnQ w base v zs) (o : Obj) : OwnQ (w.alloc o) base v zs := h.keep (fun k _ hk => Below.heap_alloc _ _ _ hk) (by simp)
theorem OwnQ.below {B : Nat} (h : OwnQ w base v zs) (hb : Below B w w') (hB : w.heap.size ≤ B) : OwnQ w' base v zs := h.keep (fun k _ hk => hb.block k (by omega)) hb.size
theorem OwnQ.setCell (h : OwnQ w base v zs) {p : Addr} (hp : p.block < base) (u : Value) : OwnQ (w.setCell p u) base v zs := h.keep (fun k hk _ => Below.heap_setCell _ _ _ _ (by omega)) (by simp [World.setCell])
theorem OwnQ.drewN (h : OwnQ w base v zs) (k : Nat) : OwnQ (w.drewN k) base v zs := h
theorem OwnQ.drew (h : OwnQ w base v zs) : OwnQ w.drew base v zs := h
theorem OwnQ.ints (h : OwnQ w base v zs) : IntS w base w.heap.size v zs := by
  obtain ⟨g, off, c, rfl, h1, h2, h3, h4, h5, h6⟩ := h
  refine ⟨_, c, rfl, h1, h2, fun _ => ⟨g, off, rfl, h3, h4, fun j hj => ⟨h5 j (by omega), (h6 j (by omega)).2⟩⟩⟩
theorem OwnQ.one (w : World) (x : Int) (t : TypeId) {g : Nat} (hg : w.heap.size = g) (hb : base ≤ g) : OwnQ (w.alloc (.cells #[.int .i64 x] t)) base (.slice (some ⟨g, 0, none⟩) 1 1) [x] := by
  subst hg
  have h1 : (w.alloc (.cells #[.int .i64 x] t)).cell? ⟨w.heap.size, 0, none⟩ = some (.int .i64 x) := by rw [World.cell?_alloc_at _ _ _ _ rfl]; rfl
  refine ⟨w.heap.size, 0, 1, rfl, Nat.le_refl _, by unfold maxLen; omega, hb, by simp, fun j hj => ?_, fun j hj => ?_⟩
  · obtain rfl : j = 0 := by simp at hj; omega
    exact h1
  · obtain rfl : j = 0 := by omega
    exact ⟨by rw [h1]; rfl, World.frozen?_alloc_at _ _ _ _ rfl⟩
theorem OwnQ.lt (h : OwnQ w base v zs) : ∀ k, v.ownBlock = some k → base ≤ k ∧ k < w.heap.size := by
  obtain ⟨g, off, c, rfl, h1, h2, h3, h4, h5, h6⟩ := h
  intro k hk
  obtain rfl : g = k := by simpa [Value.ownBlock] using hk
  exact ⟨h3, h4⟩
/-- the head is cut off -/
theorem OwnQ.tail {g off n c : Nat} {x : Int} (h : OwnQ w base (.slice (some ⟨g, off, none⟩) n c) (x :: zs)) : OwnQ w base (.slice (if c = 1 then some ⟨g, off, none⟩ else some ⟨g, off + 1, none⟩) (n - 1) (c - 1)) zs := by
  obtain ⟨g', off', c', e, h1, h2, h3, h4, h5, h6⟩ := h
  injection e with e1 e2 e3
  injection e1 with e1
  injection e1 with e4 e5
  subst e2 e3 e4 e5
  simp only [List.length_cons] at *
  by_cases hc : c = 1
  · rw [if_pos hc]
    refine ⟨g, off, c - 1, by simp, by omega, by omega, h3, h4, fun j hj => absurd hj (by omega), fun j hj => absurd hj (by omega)⟩
  · rw [if_neg hc]
    refine ⟨g, off + 1, c - 1, by simp, by omega, by omega, h3, h4, fun j hj => ?_, fun j hj => ?_⟩
    · have := h5 (j + 1) (by omega)
      rwa [nth_cons_succ, show off + (j + 1) = off + 1 + j by omega] at this
    · have := h6 (j + 1) (by omega)
      rwa [show off + (j + 1) = off + 1 + j by omega] at this
end

/-- append of one number onto a queue, the number just laid in a block of its own -/
theorem append_q {P : Program} {ops : Array Oper} {rest : List Oper} {o : Oper} {a : Act} {Q : Exit → Act → World → Prop} {t e : TypeId} {bytes : Nat}
    (ht : P.underlying t = some (.slice e)) (hinfo : (P.info? e).map (fun i => (i.zero, i.size, i.bytes)) = some (some (.int .i64 0), 1, bytes)) (hby : bytes ≤ 64)
    (w : World) (hgd : o.guard = none) {s : Operand} (x : Operand) (ho : o.op = .call { callee := .builtin .append, args := #[s, x], argTypes := #[t, t] })
    {base : Nat} {v : Value} {zs : List Int} (hown : OwnQ w base v zs) (z : Int) (te : TypeId) (hs : a.eval s = v) (hx : a.eval x = .slice (some ⟨w.heap.size, 0, none⟩) 1 1)
    (hlen : zs.length < 1099511627776)
    (h : ∀ v' w', OwnQ w' base v' (zs ++ [z]) → w.grownBy w' v.ownBlock → (∀ k, v'.ownBlock = some k → v.ownBlock = some k ∨ w.heap.size ≤ k) → wpList P ops Q rest (a.put o.dst v') w') :
    wpList P ops Q (o :: rest) a (w.alloc (.cells #[.int .i64 z] te)) := by
  obtain ⟨i, hi, hzz⟩ := Option.map_eq_some_iff.1 hinfo
  simp only [Prod.mk.injEq] at hzz
  obtain ⟨hz, hsz, hb⟩ := hzz
  have hown2 := hown.alloc (.cells #[.int .i64 z] te)
  obtain ⟨g, off, c, rfl, h1, h2, h3, h4, h5, h6⟩ := hown2
  have hgw : g < w.heap.size := by
    obtain ⟨g', off', c', e, _, _, _, q, _⟩ := hown
    injection e with e1 _ _
    injection e1 with e1
    injection e1 with e1 _
    omega
  have hnew : (w.alloc (.cells #[.int .i64 z] te)).cell? ⟨w.heap.size, 0, none⟩ = some (.int .i64 z) := by rw [World.cell?_alloc_at _ _ _ _ rfl]; rfl
  refine wpList_append_arg (w.alloc (.cells #[.int .i64 z] te)) hgd s x t ho e i (.int .i64 0) 1 bytes ht hi hz hsz hb rfl (by omega) g off zs.length c (zs.map (Value.int .i64)) hs (by simp) ?_ ⟨w.heap.size, 0, none⟩ 1 1 [.int .i64 z] hx rfl ?_ ?_ ?_ ?_ ?_ ?_ ?_
  · intro j u hj
    have hjl : j < zs.length := by have := (List.getElem?_eq_some_iff.1 hj).1; simpa using this
    rw [List.getElem?_map, nth_get? hjl] at hj
    rw [h5 j hjl]
    exact hj
  · intro j u hj
    match j, hj with
    | 0, hj =>
      simp only [List.getElem?_cons_zero, Option.some.injEq] at hj
      subst hj
      exact hnew
  · intro u hu
    simp only [List.mem_singleton] at hu
    subst hu
    rfl
  · intro hr j hj
    obtain rfl : j = 0 := by simp at hj; omega
    have := h6 zs.length (by omega)
    simpa using this
  · unfold maxLen; omega
  · have : (zs.length + 1) * bytes ≤ 1099511627776 * 64 := Nat.mul_le_mul (by omega) hby
    omega
  · intro hr
    simp only [Nat.mul_one]
    refine h _ _ ⟨g, off, c, by simp, by simpa using hr, h2, h3, ?_, fun j hj => ?_, fun j hj => ?_⟩ ?_ (fun k hk => .inl hk)
    · simp [World.setCells, World.setCell]; omega
    · simp only [World.setCells]
      by_cases ej : j = zs.length
      · subst ej
        rw [nth_append_at]
        obtain ⟨u, hu⟩ := Option.isSome_iff_exists.1 (h6 zs.length (by omega)).1
        exact World.cell?_setCell_same _ _ _ hu
      · rw [World.cell?_setCell_other _ _ _ _ (by intro e; injection e with _ e _; omega), nth_append_left (by simp at hj; omega)]
        exact h5 j (by simp at hj; omega)
    · simp only [World.setCells]
      rw [World.frozen?_setCell]
      refine ⟨?_, (h6 j hj).2⟩
      by_cases ej : j = zs.length
      · subst ej
        obtain ⟨u, hu⟩ := Option.isSome_iff_exists.1 (h6 zs.length (by omega)).1
        rw [World.cell?_setCell_same _ _ _ hu]; rfl
      · rw [World.cell?_setCell_other _ _ _ _ (by intro e; injection e with _ e _; omega)]
        exact (h6 j hj).1
    · refine ⟨rfl, rfl, rfl, by simp [World.setCells, World.setCell], fun k hk hne => ?_⟩
      simp only [World.setCells]
      rw [Below.heap_setCell _ _ _ _ (by rintro rfl; exact hne rfl)]
      exact Below.heap_alloc _ _ _ hk
  · intro hr v' w' ho' hg'
    refine h v' w' ?_ ⟨hg'.os, hg'.tape, hg'.output, Nat.le_trans (by simp) hg'.size, fun k hk _ => (hg'.block k (by simp; omega) (by simp)).trans (Below.heap_alloc _ _ _ hk)⟩ (fun k hk => .inr (by have := (ho'.lt k hk).1; simp at this; omega))
    rcases ho'.2 with ⟨_, hn⟩ | ⟨g2, cap, cur, rfl, hg, hh, hn, hm, hs2, ht2⟩
    · omega
    · have hlt := (Array.getElem?_eq_some_iff.1 hh).1
      have hcells : ∀ j, j < cap → ∃ u, w'.cell? ⟨g2, j, none⟩ = some u := fun j hj => by
        rw [cell_of_row w' g2 j cur e (0, 0) hh]
        exact ⟨cur[j]'(by omega), by simp [show j < cur.size by omega]⟩
      refine ⟨g2, 0, cap, by simp, by simpa using hn, hm, ?_, hlt, fun j hj => ?_, fun j hj => ?_⟩
      · simp at hg; omega
      · rw [Nat.zero_add, cell_of_row w' g2 j cur e (0, 0) hh]
        have hj2 : j < zs.length + 1 := by simpa using hj
        have hx : (zs.map (Value.int .i64) ++ [.int .i64 z])[j]? = some (.int .i64 (nth (zs ++ [z]) j)) := by
          rw [show zs.map (Value.int .i64) ++ [.int .i64 z] = (zs ++ [z]).map (Value.int .i64) by simp, List.getElem?_map, nth_get? hj]; rfl
        rw [← ht2, List.getElem?_take_of_lt (by omega)] at hx
        simpa using hx
      · rw [Nat.zero_add]
        obtain ⟨u, hu⟩ := hcells j hj
        exact ⟨by rw [hu]; rfl, by simp [World.frozen?, hh]⟩

end Go.Proofs.Ytcmmklcampmkjaa

/- A slice of slices of numbers that the call owns and appends rows to. No condition on any program. -/
namespace Go.Proofs.Ytcmmklcampmkjaa
open Go.RowKit

/-- v is a slice of slices that reads as xss; its own row lies from block base on; its rows lie one behind the other, from base on and below top -/
def OwnSS (w : World) (base top : Nat) (e : TypeId) (v : Value) (xss : List (List Int)) : Prop :=
  ∃ (vs : List Value) (lo hi : Nat → Nat), vs.length = xss.length ∧ Own w base e v vs ∧ base ≤ top ∧ top ≤ w.heap.size ∧
    (∀ j, j < xss.length → ∃ u, vs[j]? = some u ∧ base ≤ lo j ∧ hi j ≤ top ∧ IntS w (lo j) (hi j) u (nthL xss j) ∧ ∀ g, v.ownBlock = some g → g < lo j ∨ hi j ≤ g) ∧
    ∀ i j, i < j → j < xss.length → hi i ≤ lo j

theorem nthL_append_left {α : Type} {a b : List (List α)} {i : Nat} (h : i < a.length) : nthL (a ++ b) i = nthL a i := by simp [nthL, List.getElem?_append_left h]
theorem nthL_append_at {α : Type} (a : List (List α)) (x : List α) : nthL (a ++ [x]) a.length = x := by simp [nthL]

section
variable {w w' : World} {base top : Nat} {e : TypeId} {v : Value} {xss : List (List Int)}
theorem OwnSS.nil (w : World) (base top : Nat) (e : TypeId) (h1 : base ≤ top) (h2 : top ≤ w.heap.size) : OwnSS w base top e (.slice none 0 0) [] :=
  ⟨[], fun _ => 0, fun _ => 0, rfl, Own.nil _ _ _, h1, h2, fun j hj => absurd hj (by simp), fun i j _ hj => absurd hj (by simp)⟩
theorem OwnSS.below (h : OwnSS w base top e v xss) (hb : Below w.heap.size w w') : OwnSS w' base top e v xss := by
  obtain ⟨vs, lo, hi, h1, h2, h3, h4, h5, h6⟩ := h
  refine ⟨vs, lo, hi, h1, h2.kept (row := none) ⟨hb.os, hb.tape, hb.output, hb.size, fun k hk _ => hb.block k hk⟩ (by cases hv : v.ownBlock with
    | none => exact .inl rfl
    | some g => right; simp), h3, Nat.le_trans h4 hb.size, fun j hj => ?_, h6⟩
  obtain ⟨u, a1, a2, a3, a4, a5⟩ := h5 j hj
  exact ⟨u, a1, a2, a3, a4.below hb (by omega), a5⟩
theorem OwnSS.alloc (h : OwnSS w base top e v xss) (o : Obj) : OwnSS (w.alloc o) base top e v xss := h.below ((Below.refl _ _).alloc (Nat.le_refl _) o)
theorem OwnSS.drew (h : OwnSS w base top e v xss) : OwnSS w.drew base top e v xss := h
theorem OwnSS.drewN (h : OwnSS w base top e v xss) (k : Nat) : OwnSS (w.drewN k) base top e v xss := h
theorem OwnSS.len (h : OwnSS w base top e v xss) : ∃ A c, v = .slice A xss.length c ∧ xss.length ≤ c ∧ c ≤ maxLen := by
  obtain ⟨vs, lo, hi, h1, h2, _⟩ := h
  obtain ⟨A, c, e, a1, a2, _⟩ := h2.form
  exact ⟨A, c, by rw [e, h1], by omega, a2⟩
theorem OwnSS.lt (h : OwnSS w base top e v xss) : ∀ k, v.ownBlock = some k → base ≤ k ∧ k < w.heap.size := by
  obtain ⟨vs, lo, hi, h1, h2, _⟩ := h
  exact h2.lt
theorem OwnSS.mono (h : OwnSS w base top e v xss) {top' : Nat} (h1 : top ≤ top') (h2 : top' ≤ w.heap.size) : OwnSS w base top' e v xss := by
  obtain ⟨vs, lo, hi, a1, a2, a3, a4, a5, a6⟩ := h
  refine ⟨vs, lo, hi, a1, a2, by omega, h2, fun j hj => ?_, a6⟩
  obtain ⟨u, b1, b2, b3, b4, b5⟩ := a5 j hj
  exact ⟨u, b1, b2, by omega, b4, b5⟩
theorem OwnSS.ssx (h : OwnSS w base top e v xss) : IntSSx w base w.heap.size v xss := by
  obtain ⟨vs, lo, hi, h1, h2, h3, h4, h5, h6⟩ := h
  have hsl : Sl w base w.heap.size 1 v xss.length (fun j => vs.getD j undef) := by
    have := Sl.of_own (f := fun j => vs.getD j undef) h2 (fun j hj => by simp at hj; simp [hj])
    rwa [h1] at this
  have hr : ∀ j, j < xss.length → IntS w (lo j) (hi j) (vs.getD j undef) (nthL xss j) ∧ base ≤ lo j ∧ hi j ≤ top ∧ ∀ g, v.ownBlock = some g → g < lo j ∨ hi j ≤ g := fun j hj => by
    obtain ⟨u, a1, a2, a3, a4, a5⟩ := h5 j hj
    have : vs.getD j undef = u := by simp [a1]
    rw [this]
    exact ⟨a4, a2, a3, a5⟩
  refine ⟨fun j => vs.getD j undef, hsl, fun i hi' => (hr i hi').1.mono (hr i hi').2.1 (by have := (hr i hi').2.2.1; omega), fun i j hij hj => ?_, fun i hi' => ?_⟩
  · obtain ⟨a1, _⟩ := hr i (by omega)
    obtain ⟨b1, _⟩ := hr j hj
    rcases Sl.row a1 with e1 | ⟨g1, e1, c1, c2⟩
    · exact .inl e1
    · right
      rw [e1]
      rcases Sl.row b1 with e2 | ⟨g2, e2, d1, d2⟩
      · rw [e2]; simp
      · rw [e2]; intro e3; injection e3 with e3; have := h6 i j hij hj; omega
  · obtain ⟨a1, _, _, a2⟩ := hr i hi'
    rcases Sl.row a1 with e1 | ⟨g1, e1, c1, c2⟩
    · exact .inl e1
    · right
      rw [e1]
      unfold rowOf
      rw [if_neg (by omega)]
      intro e3
      have := a2 g1 e3.symm
      omega
end

end Go.Proofs.Ytcmmklcampmkjaa
