/-
  Frames: one anchor world, at which what is read stays known; the world of the walk differs from it in a range of blocks that are written, and in new blocks. No condition on any program.
-/
import Derived.Test.YtbbdhcfbdndhlaaDoorOwnSS
import Derived.Test.YtbbdhcfbdndhlaaDoorDistS
namespace Go.Proofs.YtbbdhcfbdndhlaaDoor
open Go.RowKit

theorem ret_bb {a b c d : Bool} (h : a = b) (h2 : c = d) : Ending.returned (.tuple #[.bool a, .bool c]) = .returned (.tuple #[.bool b, .bool d]) := by rw [h, h2]
theorem nameL {P : Program} {ops : Array Oper} {Q : Exit → Act → World → Prop} {rest : List Oper} {a : Act} {w : World} (h : ∀ W, Hid (W = w) → wpList P ops Q rest a W) : wpList P ops Q rest a w := h w (Lib.hid rfl)
theorem nameC {P : Program} {c : Code} {Q : Exit → Act → World → Prop} {a : Act} {w : World} (h : ∀ W, Hid (W = w) → c.wp P Q a W) : c.wp P Q a w := h w (Lib.hid rfl)
theorem nameK {P : Program} {f : FuncId} {args : Array Value} {w : World} {Q : Ending → World → Prop} (h : ∀ W, Hid (W = w) → Calls P f args W Q) : Calls P f args w Q := h w (Lib.hid rfl)

section
variable {w w' : World}
theorem grown_below (h : Below w.heap.size w w') : w.grownBy w' none := ⟨h.os, h.tape, h.output, h.size, fun k hk _ => h.block k hk⟩
theorem grown_alloc (w : World) (o : Obj) : w.grownBy (w.alloc o) none := ⟨rfl, rfl, rfl, by simp, fun k hk _ => Below.heap_alloc _ _ _ hk⟩
theorem grown_set (w : World) (p : Addr) (u : Value) : w.grownBy (w.setCell p u) (some p.block) := grownBy_setCell (World.grownBy.refl _ _) rfl u
theorem grown_drewN (w : World) (n : Nat) : w.grownBy (w.drewN n) none := ⟨rfl, rfl, rfl, Nat.le_refl _, fun _ _ _ => rfl⟩
theorem grown_drew (w : World) : w.grownBy w.drew none := ⟨rfl, rfl, rfl, Nat.le_refl _, fun _ _ _ => rfl⟩
theorem grown_any {row : Option Nat} (h : w.grownBy w' none) : w.grownBy w' row := ⟨h.os, h.tape, h.output, h.size, fun k hk _ => h.block k hk (by simp)⟩
theorem grown_to_below (h : w.grownBy w' none) : Below w.heap.size w w' := ⟨h.os, h.tape, h.output, h.size, fun k hk => h.block k hk (by simp)⟩
theorem no_row (lo hi : Nat) : ∀ g : Nat, (none : Option Nat) = some g → g < lo ∨ hi ≤ g := fun _ h => by cases h
end

theorem Turned.grown {lo hi : Nat} {A W W' : World} {row : Option Nat} (h : Turned lo hi A W) (hg : W.grownBy W' row) (hr : ∀ g, row = some g → (lo ≤ g ∧ g < hi) ∨ A.heap.size ≤ g) : Turned lo hi A W' :=
  ⟨hg.os.trans h.os, hg.tape.trans h.tape, hg.output.trans h.output, Nat.le_trans h.size hg.size, fun k hk ho => (hg.block k (Nat.lt_of_lt_of_le hk h.size) (fun e => by have := hr k e.symm; omega)).trans (h.block k hk ho)⟩
theorem Turned.still {lo hi : Nat} {A W W' : World} (h : Turned lo hi A W) (hg : W.grownBy W' none) : Turned lo hi A W' := h.grown hg (fun g e => by cases e)
theorem Turned.below_of {B lo hi : Nat} {w A W : World} (h : Turned lo hi A W) (hb : Below B w A) (h1 : B ≤ lo) (h2 : B ≤ A.heap.size) : Below B w W :=
  ⟨h.os.trans hb.os, h.tape.trans hb.tape, h.output.trans hb.output, Nat.le_trans hb.size h.size, fun k hk => (h.block k (by omega) (by omega)).trans (hb.block k hk)⟩
theorem Turned.box3 {lo hi : Nat} {A W : World} {g : Nat} {t : TypeId} {a b c : Value} (h : Turned lo hi A W) (hb : Box3 A g t a b c) (hg : g < lo ∨ hi ≤ g) : Box3 W g t a b c := (h.block g hb.lt hg).trans hb
theorem Turned.cell {lo hi : Nat} {A W : World} (h : Turned lo hi A W) {b o : Nat} (hl : b < A.heap.size) (hg : b < lo ∨ hi ≤ b) : W.cell? ⟨b, o, none⟩ = A.cell? ⟨b, o, none⟩ := World.cell?_of_block (a := ⟨b, o, none⟩) (h.block b hl hg)
theorem Turned.frozen {lo hi : Nat} {A W : World} (h : Turned lo hi A W) {b o : Nat} (hl : b < A.heap.size) (hg : b < lo ∨ hi ≤ b) : W.frozen? ⟨b, o, none⟩ = A.frozen? ⟨b, o, none⟩ := World.frozen?_of_block (a := ⟨b, o, none⟩) (h.block b hl hg)

section
variable {w w' : World} {lo hi base : Nat} {v : Value} {row : Option Nat}
theorem ISS.far {xss : List (List Int)} (h : IntSS w lo hi v xss) (hg : w.grownBy w' row) (hB : hi ≤ w.heap.size) (hr : ∀ g, row = some g → g < lo ∨ hi ≤ g) : IntSS w' lo hi v xss :=
  SS.keep (fun h => IntS.far h hg hB hr) h fun k h1 h2 => hg.block k (by omega) (fun e => by have := hr k e.symm; omega)
theorem OwnI.far {e : TypeId} {zs : List Int} (h : OwnI w base e v zs) (hg : w.grownBy w' row) (hr : ∀ g, row = some g → g < base ∨ v.ownBlock ≠ some g) : OwnI w' base e v zs :=
  h.kept hg (by
    rcases h.block with e1 | ⟨g, e1, h1, h2⟩
    · exact .inl e1
    · right; intro e2; rw [e1] at e2
      rcases hr g e2.symm with h3 | h3
      · omega
      · exact h3 e1)
theorem OwnI.still {e : TypeId} {zs : List Int} (h : OwnI w base e v zs) (hg : w.grownBy w' none) : OwnI w' base e v zs := h.far hg (fun g e => by cases e)
theorem IntS.still {zs : List Int} (h : IntS w lo hi v zs) (hg : w.grownBy w' none) (hB : hi ≤ w.heap.size) : IntS w' lo hi v zs := h.far hg hB (no_row _ _)
theorem ISS.still {xss : List (List Int)} (h : IntSS w lo hi v xss) (hg : w.grownBy w' none) (hB : hi ≤ w.heap.size) : IntSS w' lo hi v xss := ISS.far h hg hB (no_row _ _)
theorem Box3.still {g : Nat} {t : TypeId} {a b c : Value} (h : Box3 w g t a b c) (hg : w.grownBy w' none) : Box3 w' g t a b c := h.grown hg (fun k e => by cases e)
end

theorem rangeAll_false {n k : Nat} {p : Nat → Bool} (hk : k < n) (h : p k = false) : (List.range n).all p = false := by
  rw [Bool.eq_false_iff]; intro ha; rw [List.all_eq_true] at ha
  have := ha k (List.mem_range.2 hk); rw [h] at this; cases this
theorem rangeAll_true {n : Nat} {p : Nat → Bool} (h : ∀ k, k < n → p k = true) : (List.range n).all p = true := by
  rw [List.all_eq_true]; intro k hk; exact h k (List.mem_range.1 hk)
theorem rangeAll_at {n k : Nat} {p : Nat → Bool} (h : (List.range n).all p = true) (hk : k < n) : p k = true := by
  rw [List.all_eq_true] at h; exact h k (List.mem_range.2 hk)

theorem any_nth {zs : List Int} {p : Int → Bool} : zs.any p = true ↔ ∃ k, k < zs.length ∧ p (nth zs k) = true := by
  rw [List.any_eq_true]
  constructor
  · rintro ⟨x, hx, hp⟩
    obtain ⟨k, hk, e⟩ := List.mem_iff_getElem.1 hx
    exact ⟨k, hk, by rw [nth_eq hk, e]; exact hp⟩
  · rintro ⟨k, hk, hp⟩
    exact ⟨_, nth_mem hk, hp⟩
theorem all_nth {zs : List Int} {p : Int → Bool} : zs.all p = true ↔ ∀ k, k < zs.length → p (nth zs k) = true := by
  rw [List.all_eq_true]
  constructor
  · intro h k hk; exact h _ (nth_mem hk)
  · intro h x hx
    obtain ⟨k, hk, e⟩ := List.mem_iff_getElem.1 hx
    have := h k hk
    rwa [nth_eq hk, e] at this
theorem nth_take {zs : List Int} {i j : Nat} (h : j < i) : nth (zs.take i) j = nth zs j := by simp [nth, List.getElem?_take_of_lt h]

/-- a block known whole -/
def BoxN (w : World) (g : Nat) (cs : Array Value) (t : TypeId) : Prop := w.heap[g]? = some (.cells cs t (0, 0))
section
variable {w w' A W : World} {g lo hi : Nat} {cs : Array Value} {t : TypeId} {row : Option Nat}
theorem BoxN.lt (h : BoxN w g cs t) : g < w.heap.size := (Array.getElem?_eq_some_iff.1 h).1
theorem BoxN.cell (h : BoxN w g cs t) (j : Nat) (hj : j < cs.size) : w.cell? ⟨g, j, none⟩ = some cs[j] := by
  rw [cell_of_row w g _ _ t (0, 0) h]; simp [hj]
theorem BoxN.frozen (h : BoxN w g cs t) (i : Nat) : w.frozen? ⟨g, i, none⟩ = false := by
  have h' : w.heap[g]? = some (.cells cs t (0, 0)) := h
  simp [World.frozen?, h']
theorem BoxN.far (h : BoxN w g cs t) (hg : w.grownBy w' row) (hr : ∀ k, row = some k → k ≠ g) : BoxN w' g cs t := (hg.block g h.lt (fun e => hr g e.symm rfl)).trans h
theorem BoxN.still (h : BoxN w g cs t) (hg : w.grownBy w' none) : BoxN w' g cs t := h.far hg (fun k e => by cases e)
theorem BoxN.below {B : Nat} (h : BoxN w g cs t) (hb : Below B w w') (hg : g < B) : BoxN w' g cs t := (hb.block g hg).trans h
theorem BoxN.new (w : World) (cs : Array Value) (t : TypeId) : BoxN (w.alloc (.cells cs t)) w.heap.size cs t := heap_alloc_new w _
theorem BoxN.new' (w : World) (cs : Array Value) (t : TypeId) {g : Nat} (hg : w.heap.size = g) : BoxN (w.alloc (.cells cs t)) g cs t := by subst hg; exact heap_alloc_new w _
theorem BoxN.set (h : BoxN w g cs t) (j : Nat) (u : Value) : BoxN (w.setCell ⟨g, j, none⟩ u) g (cs.setIfInBounds j u) t := by
  have h' : w.heap[g]? = some (.cells cs t (0, 0)) := h
  simp [BoxN, World.setCell, Array.getElem?_modify, h']
theorem Turned.boxN (h : Turned lo hi A W) (hb : BoxN A g cs t) (hg : g < lo ∨ hi ≤ g) : BoxN W g cs t := (h.block g hb.lt hg).trans hb
end
section
variable {w w' : World} {lo hi l2 h2 : Nat} {v : Value} {row : Option Nat}
theorem IntS.dims {zs : List Int} (h : IntS w lo hi v zs) : ∃ A c, v = .slice A zs.length c ∧ zs.length ≤ c ∧ c ≤ 9223372036854775807 := by
  obtain ⟨A, c, e, h1, h2, _⟩ := h; unfold maxLen at h2; exact ⟨A, c, e, h1, h2⟩
theorem SS.dims {α : Type} {R : World → Nat → Nat → Value → List α → Prop} {xss : List (List α)} (h : SS R w lo hi v xss) : ∃ A c, v = .slice A xss.length c ∧ xss.length ≤ c ∧ c ≤ 9223372036854775807 := by
  obtain ⟨_, ⟨A, c, e, h1, h2, _⟩, _⟩ := h; unfold maxLen at h2; exact ⟨A, c, e, h1, h2⟩
theorem EndS.dims {es : List (Int × Int)} (h : EndS w lo hi v es) : ∃ A c, v = .slice A es.length c ∧ es.length ≤ c ∧ c ≤ 9223372036854775807 := by
  obtain ⟨A, c, e, h1, h2, _⟩ := h; unfold maxLen at h2; exact ⟨A, c, e, h1, h2⟩
/-- one cell of a row of numbers -/
theorem IntS.opened {A : Option Addr} {n c : Nat} {zs : List Int} (h : IntS w lo hi (.slice A n c) zs) {j : Nat} (hj : j < zs.length) : ∃ b off, A = some ⟨b, off, none⟩ ∧ lo ≤ b ∧ b < hi ∧ w.cell? ⟨b, off + j, none⟩ = some (.int .i64 (nth zs j)) ∧ w.frozen? ⟨b, off + j, none⟩ = false := by
  obtain ⟨A', c', e, h1, h2, h3⟩ := h.form
  injection e with e1 e2 e3
  subst e1
  obtain ⟨b, off, e4, h4, h5, h6⟩ := h3 (by omega)
  exact ⟨b, off, e4, h4, h5, h6 j hj⟩
/-- one row of a slice of slices -/
theorem SS.opened {α : Type} {R : World → Nat → Nat → Value → List α → Prop} {A : Option Addr} {n c : Nat} {xss : List (List α)} (h : SS R w lo hi (.slice A n c) xss) {j : Nat} (hj : j < xss.length) : ∃ b off u, A = some ⟨b, off, none⟩ ∧ lo ≤ b ∧ b < hi ∧ w.cell? ⟨b, off + j, none⟩ = some u ∧ R w lo hi u (nthL xss j) := by
  obtain ⟨A', c', e, h1, h2, h3⟩ := h.form
  injection e with e1 e2 e3
  subst e1
  obtain ⟨b, off, e4, h4, h5, h6⟩ := h3 (by omega)
  obtain ⟨u, h7, h8⟩ := h6 j hj
  exact ⟨b, off, u, e4, h4, h5, h7, h8⟩
theorem SS.openedIn {α : Type} {R : World → Nat → Nat → Value → List α → Prop} {b off n c : Nat} {xss : List (List α)} (h : SS R w lo hi (.slice (some ⟨b, off, none⟩) n c) xss) {j : Nat} (hj : j < xss.length) : ∃ u, b < hi ∧ w.cell? ⟨b, off + j, none⟩ = some u ∧ R w lo hi u (nthL xss j) := by
  obtain ⟨b', off', u, e, h4, h5, h7, h8⟩ := h.opened hj
  injection e with e
  injection e with e1 e2
  subst e1 e2
  exact ⟨u, h5, h7, h8⟩
theorem EndS.opened {A : Option Addr} {n c : Nat} {es : List (Int × Int)} (h : EndS w lo hi (.slice A n c) es) {j : Nat} (hj : j < es.length) : ∃ b off, A = some ⟨b, off, none⟩ ∧ lo ≤ b ∧ b < hi ∧ w.cell? ⟨b, off + j * 2, none⟩ = some (.int .i64 (nthE es j).1) ∧ w.cell? ⟨b, off + j * 2 + 1, none⟩ = some (.int .i64 (nthE es j).2) := by
  obtain ⟨A', c', e, h1, h2, h3⟩ := h.form
  injection e with e1 e2 e3
  subst e1
  obtain ⟨b, off, e4, h4, h5, h6⟩ := h3 (by omega)
  exact ⟨b, off, e4, h4, h5, h6 j hj⟩
/-- a row of a network's ends, opened at a node -/
theorem Net.rowAt {A : Option Addr} {n c : Nat} {v2 v3 : Value} {N : NetD} (h : Net w lo hi (.agg #[.slice A n c, v2, v3]) N) {u : Nat} (hu : u < N.ends.length) :
    ∃ b off A4 c4, A = some ⟨b, off, none⟩ ∧ b < hi ∧ w.cell? ⟨b, off + u, none⟩ = some (.slice A4 (nthL N.ends u).length c4) ∧ (nthL N.ends u).length ≤ c4 ∧ c4 ≤ 9223372036854775807 ∧ EndS w lo hi (.slice A4 (nthL N.ends u).length c4) (nthL N.ends u) := by
  obtain ⟨ve, vi, vn, e, h1, _, _⟩ := h
  simp only [Value.agg.injEq, Array.mk.injEq, List.cons.injEq, and_true] at e
  obtain ⟨rfl, _, _⟩ := e
  obtain ⟨b, off, u', e4, h4, h5, h7, h8⟩ := h1.opened hu
  obtain ⟨A4, c4, rfl, h9, h10⟩ := h8.dims
  exact ⟨b, off, A4, c4, e4, h5, h7, h9, h10, h8⟩
theorem OwnSS.still {base top : Nat} {e : TypeId} {xss : List (List Int)} (h : OwnSS w base top e v xss) (hg : w.grownBy w' none) : OwnSS w' base top e v xss := h.below (grown_to_below hg)
theorem OwnQ.still {base : Nat} {zs : List Int} (h : OwnQ w base v zs) (hg : w.grownBy w' none) : OwnQ w' base v zs := h.below (grown_to_below hg) (Nat.le_refl _)
/-- a row of numbers just laid -/
theorem IntS.newN (w : World) (zs : List Int) (t : TypeId) {g : Nat} (hg : w.heap.size = g) (hl : zs.length ≤ 1048576) : IntS (w.alloc (.cells (zs.map (Value.int .i64)).toArray t)) g (g + 1) (.slice (some ⟨g, 0, none⟩) zs.length zs.length) zs := by
  subst hg
  refine ⟨_, _, rfl, Nat.le_refl _, by unfold maxLen; omega, fun hpos => ⟨w.heap.size, 0, rfl, Nat.le_refl _, by omega, fun j hj => ?_⟩⟩
  rw [Nat.zero_add, World.cell?_alloc_at _ _ _ _ rfl]
  refine ⟨?_, World.frozen?_alloc_at _ _ _ _ rfl⟩
  have hj' : j < zs.length := by omega
  simp [hj', nth]
theorem Net.rowIn {b off n c : Nat} {v2 v3 : Value} {N : NetD} (h : Net w lo hi (.agg #[.slice (some ⟨b, off, none⟩) n c, v2, v3]) N) {u : Nat} (hu : u < N.ends.length) :
    ∃ A4 c4, b < hi ∧ w.cell? ⟨b, off + u, none⟩ = some (.slice A4 (nthL N.ends u).length c4) ∧ (nthL N.ends u).length ≤ c4 ∧ c4 ≤ 9223372036854775807 ∧ EndS w lo hi (.slice A4 (nthL N.ends u).length c4) (nthL N.ends u) := by
  obtain ⟨b', off', A4, c4, e, h1, h2, h3, h4, h5⟩ := h.rowAt hu
  injection e with e
  injection e with e1 e2
  subst e1 e2
  exact ⟨A4, c4, h1, h2, h3, h4, h5⟩
theorem EndS.far {es : List (Int × Int)} (h : EndS w lo hi v es) (hg : w.grownBy w' row) (hB : hi ≤ w.heap.size) (hr : ∀ g, row = some g → g < lo ∨ hi ≤ g) : EndS w' lo hi v es :=
  EndS.keep h fun k h1 h2 => hg.block k (by omega) (fun e => by have := hr k e.symm; omega)
end

end Go.Proofs.YtbbdhcfbdndhlaaDoor
