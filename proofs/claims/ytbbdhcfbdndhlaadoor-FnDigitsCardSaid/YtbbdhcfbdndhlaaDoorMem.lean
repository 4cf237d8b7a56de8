/-
  Words for memory, and lemmas on them: slices of integers that read as lists. No condition on any program; used by all proofs of this seat.
-/
import Derived.Below
import Derived.Laws.OwnMore
import Derived.Deep.Draws
import Derived.Deep.OwnRows
import Derived.Laws.Rows
import Derived.Laws.AppendOwn
import Derived.Lib.Hide
import Derived.Deep.QuietTactic
namespace Go.Proofs.YtbbdhcfbdndhlaaDoor
open Go.RowKit

theorem ret_int {k : IntKind} {a b : Int} (h : a = b) : Ending.returned (.int k a) = .returned (.int k b) := by rw [h]
theorem ret_pair {k : IntKind} {a b : Int} {c d : Bool} (h : a = b) (h2 : c = d) : Ending.returned (.tuple #[.int k a, .bool c]) = .returned (.tuple #[.int k b, .bool d]) := by rw [h, h2]
theorem ret_vb {r : Value} {c d : Bool} (h2 : c = d) : Ending.returned (.tuple #[r, .bool c]) = .returned (.tuple #[r, .bool d]) := by rw [h2]
theorem ret_bool {a b : Bool} (h : a = b) : Ending.returned (.bool a) = .returned (.bool b) := by rw [h]

/-- element i of a list of numbers; 0 past its end -/
def nth (zs : List Int) (i : Nat) : Int := zs.getD i 0
theorem nth_eq {zs : List Int} {i : Nat} (h : i < zs.length) : nth zs i = zs[i] := by simp [nth, h]
theorem nth_get? {zs : List Int} {i : Nat} (h : i < zs.length) : zs[i]? = some (nth zs i) := by simp [nth, h]
theorem nth_mem {zs : List Int} {i : Nat} (h : i < zs.length) : nth zs i ∈ zs := by rw [nth_eq h]; exact List.getElem_mem h
theorem nth_nil (i : Nat) : nth [] i = 0 := by simp [nth]
theorem nth_cons_zero (x : Int) (l : List Int) : nth (x :: l) 0 = x := rfl
theorem nth_cons_succ (x : Int) (l : List Int) (i : Nat) : nth (x :: l) (i + 1) = nth l i := rfl
theorem nth_append_left {a b : List Int} {i : Nat} (h : i < a.length) : nth (a ++ b) i = nth a i := by simp [nth, List.getElem?_append_left h]
theorem nth_append_at (a : List Int) (x : Int) : nth (a ++ [x]) a.length = x := by simp [nth]
theorem ext_nth {a b : List Int} (hl : a.length = b.length) (h : ∀ i, i < a.length → nth a i = nth b i) : a = b := by
  apply List.ext_getElem hl
  intro i h1 h2
  have := h i h1
  rwa [nth_eq h1, nth_eq h2] at this

/-- the world w' is w but for blocks from lo on that lie below hi, and for new blocks -/
structure Turned (lo hi : Nat) (w w' : World) : Prop where
  os : w'.os = w.os
  tape : w'.tape = w.tape
  output : w'.output = w.output
  size : w.heap.size ≤ w'.heap.size
  block : ∀ k, k < w.heap.size → (k < lo ∨ hi ≤ k) → w'.heap[k]? = w.heap[k]?

theorem Turned.refl (lo hi : Nat) (w : World) : Turned lo hi w w := ⟨rfl, rfl, rfl, Nat.le_refl _, fun _ _ _ => rfl⟩
theorem Turned.trans {lo hi : Nat} {a b c : World} (h : Turned lo hi a b) (k : Turned lo hi b c) : Turned lo hi a c :=
  ⟨k.os.trans h.os, k.tape.trans h.tape, k.output.trans h.output, Nat.le_trans h.size k.size, fun i hi ho => (k.block i (Nat.lt_of_lt_of_le hi h.size) ho).trans (h.block i hi ho)⟩
theorem Turned.mono {lo hi lo' hi' : Nat} {w w' : World} (h : Turned lo hi w w') (h1 : lo' ≤ lo) (h2 : hi ≤ hi') : Turned lo' hi' w w' :=
  ⟨h.os, h.tape, h.output, h.size, fun i hi ho => h.block i hi (by omega)⟩
theorem Turned.of_below {B lo hi : Nat} {w w' : World} (h : Below B w w') (hB : w.heap.size ≤ B) : Turned lo hi w w' :=
  ⟨h.os, h.tape, h.output, h.size, fun i hi _ => h.block i (by omega)⟩
theorem Turned.below {lo hi : Nat} {w w' : World} (h : Turned lo hi w w') (h2 : lo ≤ w.heap.size) : Below lo w w' :=
  ⟨h.os, h.tape, h.output, h.size, fun i hi => h.block i (by omega) (.inl hi)⟩
theorem Turned.setCell {lo hi : Nat} {a w : World} (h : Turned lo hi a w) {p : Addr} (h1 : lo ≤ p.block) (h2 : p.block < hi) (u : Value) : Turned lo hi a (w.setCell p u) :=
  h.trans ⟨rfl, rfl, rfl, by simp [World.setCell], fun k hk ho => Below.heap_setCell _ _ _ _ (by omega)⟩
theorem Turned.drewN {lo hi : Nat} {a w : World} (h : Turned lo hi a w) (n : Nat) : Turned lo hi a (w.drewN n) := ⟨h.os, h.tape, h.output, h.size, h.block⟩
theorem below_drewN {B : Nat} {a w : World} (h : Below B a w) (n : Nat) : Below B a (w.drewN n) := ⟨h.os, h.tape, h.output, h.size, h.block⟩
theorem rowIs_drewN {w : World} {b : Nat} {t : TypeId} {n : Nat} {f : Nat → Value} (h : w.rowIs b t n f) (k : Nat) : (w.drewN k).rowIs b t n f := h

theorem quiet_left {P : Program} {f : FuncId} {args : Array Value} {w : World} {n : Nat} {v : Value}
    (h : Calls P f args (w.drewN n) fun e w' => e = .returned v ∧ w.drewN n = w') : Calls P f args (w.drewN n) fun e w'' => e = .returned v ∧ ∃ m, w'' = w.drewN m :=
  h.mono fun _ _ ⟨he, hm⟩ => ⟨he, n, hm.symm⟩

/-- v is a slice of n elements of sz cells each; cell j holds f j and is not frozen; the cells lie in a block from lo on and below hi -/
def Sl (w : World) (lo hi sz : Nat) (v : Value) (n : Nat) (f : Nat → Value) : Prop :=
  ∃ A c, v = .slice A n c ∧ n ≤ c ∧ c ≤ maxLen ∧
    (0 < n → ∃ b off, A = some ⟨b, off, none⟩ ∧ lo ≤ b ∧ b < hi ∧ ∀ j, j < n * sz → w.cell? ⟨b, off + j, none⟩ = some (f j) ∧ w.frozen? ⟨b, off + j, none⟩ = false)

section
variable {w w' : World} {lo hi lo' hi' sz n : Nat} {v : Value} {f g : Nat → Value}
theorem Sl.keep (h : Sl w lo hi sz v n f) (hk : ∀ k, lo ≤ k → k < hi → w'.heap[k]? = w.heap[k]?) : Sl w' lo hi sz v n f := by
  obtain ⟨A, c, e, h1, h2, h3⟩ := h
  refine ⟨A, c, e, h1, h2, fun hn => ?_⟩
  obtain ⟨b, off, e2, h4, h5, h6⟩ := h3 hn
  refine ⟨b, off, e2, h4, h5, fun j hj => ?_⟩
  have hb := hk b h4 h5
  rw [World.cell?_of_block (w := w) (w' := w') (a := ⟨b, off + j, none⟩) hb, World.frozen?_of_block (w := w) (w' := w') (a := ⟨b, off + j, none⟩) hb]
  exact h6 j hj
theorem Sl.mono (h : Sl w lo hi sz v n f) (h1 : lo' ≤ lo) (h2 : hi ≤ hi') : Sl w lo' hi' sz v n f := by
  obtain ⟨A, c, e, h1', h2', h3⟩ := h
  refine ⟨A, c, e, h1', h2', fun hn => ?_⟩
  obtain ⟨b, off, e2, h4, h5, h6⟩ := h3 hn
  exact ⟨b, off, e2, by omega, by omega, h6⟩
theorem Sl.congr (h : Sl w lo hi sz v n f) (e : ∀ j, j < n * sz → f j = g j) : Sl w lo hi sz v n g := by
  obtain ⟨A, c, e1, h1, h2, h3⟩ := h
  refine ⟨A, c, e1, h1, h2, fun hn => ?_⟩
  obtain ⟨b, off, e2, h4, h5, h6⟩ := h3 hn
  exact ⟨b, off, e2, h4, h5, fun j hj => by rw [← e j hj]; exact h6 j hj⟩
theorem Sl.below {B : Nat} (h : Sl w lo hi sz v n f) (hb : Below B w w') (hB : hi ≤ B) : Sl w' lo hi sz v n f := h.keep fun k _ hk => hb.block k (by omega)
theorem Sl.turned {l2 h2 : Nat} (h : Sl w lo hi sz v n f) (hb : Turned l2 h2 w w') (hB : hi ≤ w.heap.size) (hd : hi ≤ l2 ∨ h2 ≤ lo) : Sl w' lo hi sz v n f :=
  h.keep fun k h1 h2 => hb.block k (by omega) (by omega)
theorem Sl.drewN (h : Sl w lo hi sz v n f) (k : Nat) : Sl (w.drewN k) lo hi sz v n f := h
theorem Sl.drew (h : Sl w lo hi sz v n f) : Sl w.drew lo hi sz v n f := h
theorem Sl.alloc (h : Sl w lo hi sz v n f) (hB : hi ≤ w.heap.size) (o : Obj) : Sl (w.alloc o) lo hi sz v n f := h.keep fun k _ hk => Below.heap_alloc _ _ _ (by omega)
theorem Sl.setCell (h : Sl w lo hi sz v n f) {p : Addr} (hp : p.block < lo ∨ hi ≤ p.block) (u : Value) : Sl (w.setCell p u) lo hi sz v n f := h.keep fun k h1 h2 => Below.heap_setCell _ _ _ _ (by omega)
theorem Sl.nil (w : World) (lo hi sz : Nat) (f : Nat → Value) : Sl w lo hi sz (.slice none 0 0) 0 f := ⟨none, 0, rfl, Nat.le_refl _, by simp, fun h => absurd h (by omega)⟩
theorem Sl.at_ {b off c j : Nat} (h : Sl w lo hi sz (.slice (some ⟨b, off, none⟩) n c) n f) (hj : j < n * sz) : w.cell? ⟨b, off + j, none⟩ = some (f j) ∧ w.frozen? ⟨b, off + j, none⟩ = false := by
  obtain ⟨A, c', e, h1, h2, h3⟩ := h
  obtain ⟨b', off', e2, h4, h5, h6⟩ := h3 (by rcases Nat.eq_zero_or_pos n with h0 | h0 <;> simp_all)
  subst e2
  injection e with e _ _
  injection e with e
  injection e with e1 e2
  subst e1 e2
  exact h6 j hj
theorem Sl.set {b off c j : Nat} (h : Sl w lo hi sz (.slice (some ⟨b, off, none⟩) n c) n f) (hj : j < n * sz) (u : Value) :
    Sl (w.setCell ⟨b, off + j, none⟩ u) lo hi sz (.slice (some ⟨b, off, none⟩) n c) n (fun i => if i = j then u else f i) := by
  have hat := h.at_ hj
  obtain ⟨A, c', e, h1, h2, h3⟩ := h
  refine ⟨A, c', e, h1, h2, fun hn => ?_⟩
  obtain ⟨b', off', e2, h4, h5, h6⟩ := h3 hn
  subst e2
  injection e with e _ _
  injection e with e
  injection e with e1 e2
  subst e1 e2
  refine ⟨b, off, rfl, h4, h5, fun i hi => ?_⟩
  obtain ⟨hc, hf⟩ := h6 i hi
  show _ = some (if i = j then u else f i) ∧ _
  by_cases hij : i = j
  · subst hij
    rw [if_pos rfl]
    exact ⟨World.cell?_setCell_same _ _ _ hc, by rw [World.frozen?_setCell]; exact hf⟩
  · rw [if_neg hij]
    refine ⟨?_, by rw [World.frozen?_setCell]; exact hf⟩
    rw [World.cell?_setCell_other _ _ _ _ (by intro e; injection e with _ e _; omega)]
    exact hc
/-- a row that the call owns -/
theorem Sl.of_own {base : Nat} {e : TypeId} {xs : List Value} (h : w.ownsRow base e sz v n xs) (hf : ∀ j, j < n * sz → xs[j]? = some (f j)) : Sl w base w.heap.size sz v n f := by
  obtain ⟨h1, h2⟩ := h
  rcases h2 with ⟨rfl, rfl⟩ | ⟨g, cap, cur, rfl, hg, hh, hn, hm, hs, ht⟩
  · exact Sl.nil _ _ _ _ _
  · refine ⟨_, _, rfl, hn, hm, fun hpos => ⟨g, 0, rfl, hg, ?_, fun j hj => ?_⟩⟩
    · obtain ⟨hlt, _⟩ := Array.getElem?_eq_some_iff.1 hh
      exact hlt
    · have h3 : xs[j]? = some (f j) := hf j hj
      rw [← ht, List.getElem?_take_of_lt hj] at h3
      rw [Nat.zero_add]
      refine ⟨?_, by simp [World.frozen?, hh]⟩
      rw [cell_of_row w g j cur e (0, 0) hh]
      simpa using h3
/-- a row known whole -/
theorem Sl.of_row {b : Nat} {t : TypeId} {m c : Nat} (h : w.rowIs b t m f) (hlo : lo ≤ b) (hn : n * sz ≤ m) (hc : n ≤ c) (hm : c ≤ maxLen) : Sl w lo w.heap.size sz (.slice (some ⟨b, 0, none⟩) n c) n f := by
  refine ⟨_, _, rfl, hc, hm, fun hpos => ⟨b, 0, rfl, hlo, h.lt, fun j hj => ?_⟩⟩
  rw [Nat.zero_add]
  exact ⟨h.cell (by omega), h.frozen j⟩
end

/-- the block that a slice's elements lie in, if it has any -/
def rowOf (n : Nat) (v : Value) : Option Nat := if n = 0 then none else v.ownBlock
theorem Sl.row {w : World} {lo hi sz n : Nat} {v : Value} {f : Nat → Value} (h : Sl w lo hi sz v n f) : rowOf n v = none ∨ ∃ b, rowOf n v = some b ∧ lo ≤ b ∧ b < hi := by
  obtain ⟨A, c, rfl, h1, h2, h3⟩ := h
  unfold rowOf
  by_cases hn : n = 0
  · exact .inl (if_pos hn)
  · obtain ⟨b, off, rfl, h4, h5, _⟩ := h3 (by omega)
    exact .inr ⟨b, by rw [if_neg hn]; rfl, h4, h5⟩
/-- a reading stays where another row is written -/
theorem Sl.grown {w w' : World} {lo hi sz n : Nat} {v : Value} {f : Nat → Value} {row : Option Nat} (h : Sl w lo hi sz v n f) (hg : w.grownBy w' row) (hB : hi ≤ w.heap.size) (hne : rowOf n v = none ∨ rowOf n v ≠ row) : Sl w' lo hi sz v n f := by
  obtain ⟨A, c, rfl, h1, h2, h3⟩ := h
  refine ⟨A, c, rfl, h1, h2, fun hn => ?_⟩
  obtain ⟨b, off, rfl, h4, h5, h6⟩ := h3 hn
  refine ⟨b, off, rfl, h4, h5, fun j hj => ?_⟩
  have hr : rowOf n (.slice (some ⟨b, off, none⟩) n c) = some b := by unfold rowOf; rw [if_neg (by omega)]; rfl
  have hb := hg.block b (by omega) (by rw [hr] at hne; rcases hne with h | h; · cases h
                                       · exact h)
  rw [World.cell?_of_block (w := w) (w' := w') (a := ⟨b, off + j, none⟩) hb, World.frozen?_of_block (w := w) (w' := w') (a := ⟨b, off + j, none⟩) hb]
  exact h6 j hj

theorem rowOf_some {b off n c : Nat} (hn : 0 < n) : rowOf n (.slice (some ⟨b, off, none⟩) n c) = some b := by unfold rowOf; rw [if_neg (by omega)]; rfl
theorem Turned.of_row {w w' : World} {lo hi sz n : Nat} {v : Value} {f : Nat → Value} (h : Sl w lo hi sz v n f) (hg : w.grownBy w' (rowOf n v)) : Turned lo hi w w' := by
  refine ⟨hg.os, hg.tape, hg.output, hg.size, fun k hk ho => hg.block k hk ?_⟩
  rcases h.row with e | ⟨b, e, h1, h2⟩
  · rw [e]; simp
  · rw [e]; intro e2; injection e2; omega
theorem grownBy_setCell {a w : World} {g : Nat} (h : a.grownBy w (some g)) {p : Addr} (hp : p.block = g) (u : Value) : a.grownBy (w.setCell p u) (some g) :=
  ⟨h.os, h.tape, h.output, by simpa [World.setCell] using h.size, fun i hi hne => (Below.heap_setCell w p u i (by rintro rfl; exact hne (by rw [hp]))).trans (h.block i hi hne)⟩
theorem grownBy_trans {a b c : World} {row : Option Nat} (h : a.grownBy b row) (k : b.grownBy c row) : a.grownBy c row :=
  ⟨k.os.trans h.os, k.tape.trans h.tape, k.output.trans h.output, Nat.le_trans h.size k.size, fun i hi ho => (k.block i (Nat.lt_of_lt_of_le hi h.size) ho).trans (h.block i hi ho)⟩

/-- v reads as the list of integers zs -/
def IntS (w : World) (lo hi : Nat) (v : Value) (zs : List Int) : Prop := Sl w lo hi 1 v zs.length fun j => .int .i64 (nth zs j)

section
variable {w w' : World} {lo hi lo' hi' : Nat} {v : Value} {zs : List Int}
theorem IntS.form (h : IntS w lo hi v zs) : ∃ A c, v = .slice A zs.length c ∧ zs.length ≤ c ∧ c ≤ maxLen ∧
    (0 < zs.length → ∃ b off, A = some ⟨b, off, none⟩ ∧ lo ≤ b ∧ b < hi ∧ ∀ j, j < zs.length → w.cell? ⟨b, off + j, none⟩ = some (.int .i64 (nth zs j)) ∧ w.frozen? ⟨b, off + j, none⟩ = false) := by
  obtain ⟨A, c, e, h1, h2, h3⟩ := h
  simp only [Nat.mul_one] at h3
  exact ⟨A, c, e, h1, h2, h3⟩
theorem IntS.mono (h : IntS w lo hi v zs) (h1 : lo' ≤ lo) (h2 : hi ≤ hi') : IntS w lo' hi' v zs := Sl.mono h h1 h2
theorem IntS.below {B : Nat} (h : IntS w lo hi v zs) (hb : Below B w w') (hB : hi ≤ B) : IntS w' lo hi v zs := Sl.below h hb hB
theorem IntS.turned {l2 h2 : Nat} (h : IntS w lo hi v zs) (hb : Turned l2 h2 w w') (hB : hi ≤ w.heap.size) (hd : hi ≤ l2 ∨ h2 ≤ lo) : IntS w' lo hi v zs := Sl.turned h hb hB hd
theorem IntS.alloc (h : IntS w lo hi v zs) (hB : hi ≤ w.heap.size) (o : Obj) : IntS (w.alloc o) lo hi v zs := Sl.alloc h hB o
theorem IntS.setCell (h : IntS w lo hi v zs) {p : Addr} (hp : p.block < lo ∨ hi ≤ p.block) (u : Value) : IntS (w.setCell p u) lo hi v zs := Sl.setCell h hp u
theorem IntS.nil (w : World) (lo hi : Nat) : IntS w lo hi (.slice none 0 0) [] := Sl.nil _ _ _ _ _
theorem IntS.of_own {base : Nat} {e : TypeId} (h : w.ownsRow base e 1 v zs.length (zs.map (Value.int .i64))) : IntS w base w.heap.size v zs :=
  Sl.of_own h fun j hj => by rw [List.getElem?_map, nth_get? (by omega)]; rfl
end

end Go.Proofs.YtbbdhcfbdndhlaaDoor
