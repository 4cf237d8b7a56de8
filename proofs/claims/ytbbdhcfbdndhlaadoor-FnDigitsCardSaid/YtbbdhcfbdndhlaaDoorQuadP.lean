/-
  Rows of four numbers: slices of edges in memory; the edges of a network as a list; plain laws on them.
-/
import Derived.Test.YtbbdhcfbdndhlaaDoorFrame
namespace Go.Proofs.YtbbdhcfbdndhlaaDoor
open Go.RowKit
set_option linter.unusedVariables false

/-- an edge: node and port, node and port -/
structure Quad where
  v : Int
  i : Int
  w : Int
  j : Int
def nthQ (l : List Quad) (k : Nat) : Quad := l.getD k ⟨0, 0, 0, 0⟩
theorem nthQ_eq {l : List Quad} {k : Nat} (h : k < l.length) : nthQ l k = l[k] := by simp [nthQ, h]
theorem nthQ_mem {l : List Quad} {k : Nat} (h : k < l.length) : nthQ l k ∈ l := by rw [nthQ_eq h]; exact List.getElem_mem h
theorem nthQ_append_left {a b : List Quad} {k : Nat} (h : k < a.length) : nthQ (a ++ b) k = nthQ a k := by simp [nthQ, List.getElem?_append_left h]
theorem nthQ_append_at (a : List Quad) (x : Quad) : nthQ (a ++ [x]) a.length = x := by simp [nthQ]
def Quad.cells (q : Quad) : List Value := [.int .i64 q.v, .int .i64 q.i, .int .i64 q.w, .int .i64 q.j]
def Quad.ints (q : Quad) : List Int := [q.v, q.i, q.w, q.j]
def flatQ (l : List Quad) : List Value := l.flatMap Quad.cells
def quadCell (l : List Quad) (j : Nat) : Value := (nthQ l (j / 4)).cells.getD (j % 4) undef
theorem flatQ_length (l : List Quad) : (flatQ l).length = l.length * 4 := by
  induction l with
  | nil => rfl
  | cons q l ih => simp only [flatQ, List.flatMap_cons, List.length_append, List.length_cons] at *; rw [ih]; simp [Quad.cells]; omega
theorem flatQ_get (l : List Quad) : ∀ j, j < l.length * 4 → (flatQ l)[j]? = some (quadCell l j) := by
  induction l with
  | nil => intro j hj; simp at hj
  | cons q l ih =>
    intro j hj
    have hc : flatQ (q :: l) = q.cells ++ flatQ l := rfl
    have h4 : q.cells.length = 4 := rfl
    rw [hc]
    by_cases h : j < 4
    · rw [List.getElem?_append_left (by omega)]
      unfold quadCell
      rw [show j / 4 = 0 by omega, show j % 4 = j by omega]
      have e0 : nthQ (q :: l) 0 = q := rfl
      rw [e0, List.getD_eq_getElem?_getD, List.getElem?_eq_getElem (by omega)]; rfl
    · rw [List.getElem?_append_right (by omega), h4, ih (j - 4) (by simp at hj; omega)]
      unfold quadCell
      rw [show j / 4 = (j - 4) / 4 + 1 by omega, show (j - 4) % 4 = j % 4 by omega]
      simp [nthQ]

/-- v reads as the list of edges qs -/
def QuadS (w : World) (lo hi : Nat) (v : Value) (qs : List Quad) : Prop := Sl w lo hi 4 v qs.length (quadCell qs)
/-- a row of edges that the call owns -/
def OwnQd (w : World) (base : Nat) (e : TypeId) (v : Value) (qs : List Quad) : Prop := w.ownsRow base e 4 v qs.length (flatQ qs)
section
variable {w w' : World} {lo hi lo' hi' base B l2 h2 : Nat} {v : Value} {qs : List Quad} {e : TypeId} {row : Option Nat}
theorem QuadS.dims (h : QuadS w lo hi v qs) : ∃ A c, v = .slice A qs.length c ∧ qs.length ≤ c ∧ c ≤ 9223372036854775807 := by
  obtain ⟨A, c, e, h1, h2, _⟩ := h; unfold maxLen at h2; exact ⟨A, c, e, h1, h2⟩
theorem QuadS.below (h : QuadS w lo hi v qs) (hb : Below B w w') (hB : hi ≤ B) : QuadS w' lo hi v qs := Sl.below h hb hB
theorem QuadS.turned (h : QuadS w lo hi v qs) (hb : Turned l2 h2 w w') (hB : hi ≤ w.heap.size) (hd : hi ≤ l2 ∨ h2 ≤ lo) : QuadS w' lo hi v qs := Sl.turned h hb hB hd
theorem QuadS.mono (h : QuadS w lo hi v qs) (h1 : lo' ≤ lo) (h2 : hi ≤ hi') : QuadS w lo' hi' v qs := Sl.mono h h1 h2
theorem QuadS.far (h : QuadS w lo hi v qs) (hg : w.grownBy w' row) (hB : hi ≤ w.heap.size) (hr : ∀ g, row = some g → g < lo ∨ hi ≤ g) : QuadS w' lo hi v qs :=
  Sl.keep h fun k h1 h2 => hg.block k (by omega) (fun e => by have := hr k e.symm; omega)
theorem QuadS.still (h : QuadS w lo hi v qs) (hg : w.grownBy w' none) (hB : hi ≤ w.heap.size) : QuadS w' lo hi v qs := h.far hg hB (no_row _ _)
theorem QuadS.opened {A : Option Addr} {n c : Nat} (h : QuadS w lo hi (.slice A n c) qs) {k : Nat} (hk : k < qs.length) : ∃ b off, A = some ⟨b, off, none⟩ ∧ lo ≤ b ∧ b < hi ∧
    w.cell? ⟨b, off + k * 4, none⟩ = some (.int .i64 (nthQ qs k).v) ∧ w.cell? ⟨b, off + k * 4 + 1, none⟩ = some (.int .i64 (nthQ qs k).i) ∧ w.cell? ⟨b, off + k * 4 + 2, none⟩ = some (.int .i64 (nthQ qs k).w) ∧ w.cell? ⟨b, off + k * 4 + 3, none⟩ = some (.int .i64 (nthQ qs k).j) := by
  obtain ⟨A', c', e, h1, h2, h3⟩ := h
  injection e with e1 e2 e3
  subst e1
  obtain ⟨b, off, e4, h4, h5, h6⟩ := h3 (by omega)
  have g : ∀ r, r < 4 → w.cell? ⟨b, off + k * 4 + r, none⟩ = some ((nthQ qs k).cells.getD r undef) := fun r hr => by
    have := (h6 (k * 4 + r) (by omega)).1
    unfold quadCell at this
    rw [show (k * 4 + r) / 4 = k by omega, show (k * 4 + r) % 4 = r by omega, ← Nat.add_assoc] at this
    exact this
  exact ⟨b, off, e4, h4, h5, g 0 (by omega), g 1 (by omega), g 2 (by omega), g 3 (by omega)⟩
theorem OwnQd.nil (w : World) (base : Nat) (e : TypeId) : OwnQd w base e (.slice none 0 0) [] := World.ownsRow_nil w base e 4
theorem OwnQd.lt (h : OwnQd w base e v qs) : ∀ k, v.ownBlock = some k → base ≤ k ∧ k < w.heap.size := World.ownsRow.lt h
theorem OwnQd.alloc (h : OwnQd w base e v qs) (o : Obj) : OwnQd (w.alloc o) base e v qs := World.ownsRow.alloc h o
theorem OwnQd.kept {row : Option Nat} (h : OwnQd w base e v qs) (hg : w.grownBy w' row) (hne : v.ownBlock = none ∨ v.ownBlock ≠ row) : OwnQd w' base e v qs := World.ownsRow.kept h hg hne
theorem OwnQd.still (h : OwnQd w base e v qs) (hg : w.grownBy w' none) : OwnQd w' base e v qs := h.kept hg (by
  cases hv : v.ownBlock with
  | none => exact .inl rfl
  | some g => right; simp)
theorem OwnQd.quads (h : OwnQd w base e v qs) : QuadS w base w.heap.size v qs := Sl.of_own h fun j hj => flatQ_get qs j (by omega)
end

/-- append onto a row of the call's own, the new elements' cells known -/
theorem append_row {P : Program} {ops : Array Oper} {rest : List Oper} {o : Oper} {a : Act} {Q : Exit → Act → World → Prop} {t e : TypeId} {z : Value} {sz bytes : Nat}
    (ht : P.underlying t = some (.slice e)) (hinfo : (P.info? e).map (fun i => (i.zero, i.size, i.bytes)) = some (some z, sz, bytes)) (hz1 : z.cells.size = sz) (hsz : 0 < sz) (hby : bytes ≤ 64)
    (w : World) (hgd : o.guard = none) {s : Operand} (x : Operand) (ho : o.op = .call { callee := .builtin .append, args := #[s, x], argTypes := #[t, t] })
    {base : Nat} {v : Value} {n : Nat} {xs : List Value} (hown : w.ownsRow base e sz v n xs) (hs : a.eval s = v) {ad : Addr} {m c : Nat} (news : List Value) (hx : a.eval x = .slice (some ad) m c)
    (hl : news.length = m * sz) (hnews : ∀ j u, news[j]? = some u → w.cell? (ad.add j) = some u) (h1 : ∀ u ∈ news, u.oneCell' = true)
    (hlen : n + m ≤ 1099511627776) (hbase : base ≤ w.heap.size)
    (h : ∀ v' w', w'.ownsRow base e sz v' (n + m) (xs ++ news) → w.grownBy w' v.ownBlock → (v'.ownBlock = v.ownBlock ∨ v'.ownBlock = some w.heap.size) → wpList P ops Q rest (a.put o.dst v') w') :
    wpList P ops Q (o :: rest) a w := by
  obtain ⟨i, hi, hzz⟩ := Option.map_eq_some_iff.1 hinfo
  simp only [Prod.mk.injEq] at hzz
  obtain ⟨hz, hsz2, hb⟩ := hzz
  refine wpList_append_own_at w hgd s x t ho base e i z sz bytes ht hi hz hsz2 hb hz1 hsz v n xs hs hown ad m c news hx hl hnews h1 (by unfold maxLen; omega) ?_ hbase ?_
  · have : (n + m) * bytes ≤ 1099511627776 * 64 := Nat.mul_le_mul hlen hby
    omega
  · intro v' w' a1 a2 _ a4
    exact h v' w' a1 a2 a4
/-- append of one edge, just laid in a block of its own -/
theorem append_quad {P : Program} {ops : Array Oper} {rest : List Oper} {o : Oper} {a : Act} {Q : Exit → Act → World → Prop} {t e : TypeId} {z : Value} {bytes : Nat}
    (ht : P.underlying t = some (.slice e)) (hinfo : (P.info? e).map (fun i => (i.zero, i.size, i.bytes)) = some (some z, 4, bytes)) (hz1 : z.cells.size = 4) (hby : bytes ≤ 64)
    (w : World) (hgd : o.guard = none) {s : Operand} (x : Operand) (ho : o.op = .call { callee := .builtin .append, args := #[s, x], argTypes := #[t, t] })
    {base : Nat} {v : Value} {qs : List Quad} (hown : OwnQd w base e v qs) (q : Quad) (te : TypeId) (hs : a.eval s = v) (hx : a.eval x = .slice (some ⟨w.heap.size, 0, none⟩) 1 1)
    (hlen : qs.length < 1099511627776) (hbase : base ≤ w.heap.size)
    (h : ∀ v' w', OwnQd w' base e v' (qs ++ [q]) → w.grownBy w' v.ownBlock → wpList P ops Q rest (a.put o.dst v') w') :
    wpList P ops Q (o :: rest) a (w.alloc (.cells #[.int .i64 q.v, .int .i64 q.i, .int .i64 q.w, .int .i64 q.j] te)) := by
  refine append_row ht hinfo hz1 (by omega) hby _ hgd x ho (hown.alloc _) hs q.cells hx rfl ?_ ?_ (by omega) (by simp; omega) fun v' w' a1 a2 _ => h v' w' ?_ ?_
  · intro j u hj
    rw [show (⟨w.heap.size, 0, none⟩ : Addr).add j = ⟨w.heap.size, j, none⟩ by simp [Addr.add, eq_comm], World.cell?_alloc_at _ _ _ _ rfl]
    simpa [Quad.cells] using hj
  · intro u hu
    simp only [Quad.cells, List.mem_cons, List.not_mem_nil, or_false] at hu
    rcases hu with rfl | rfl | rfl | rfl <;> rfl
  · unfold OwnQd
    have e1 : flatQ (qs ++ [q]) = flatQ qs ++ q.cells := by simp [flatQ]
    rw [e1, List.length_append]
    exact a1
  · exact ⟨a2.os, a2.tape, a2.output, Nat.le_trans (by simp) a2.size, fun k hk hne => (a2.block k (by simp; omega) hne).trans (Below.heap_alloc _ _ _ hk)⟩

/-- port i of v is the first one of its edge -/
def firstB (N : NetD) (v i : Nat) : Bool := decide ((v : Int) < (nthE (nthL N.ends v) i).1) || (decide ((v : Int) = (nthE (nthL N.ends v) i).1) && decide ((i : Int) ≤ (nthE (nthL N.ends v) i).2))
def quadAt (N : NetD) (v i : Nat) : Quad := ⟨v, i, (nthE (nthL N.ends v) i).1, (nthE (nthL N.ends v) i).2⟩
def rowE (N : NetD) (v m : Nat) : List Quad := ((List.range m).filter (firstB N v)).map (quadAt N v)
def edgesE (N : NetD) (k : Nat) : List Quad := (List.range k).flatMap fun v => rowE N v (nthL N.ends v).length
def edges (N : NetD) : List Quad := edgesE N N.ends.length
theorem rowE_zero (N : NetD) (v : Nat) : rowE N v 0 = [] := rfl
theorem rowE_yes {N : NetD} {v m : Nat} (h : firstB N v m = true) : rowE N v (m + 1) = rowE N v m ++ [quadAt N v m] := by simp [rowE, List.range_succ, h]
theorem rowE_no {N : NetD} {v m : Nat} (h : firstB N v m = false) : rowE N v (m + 1) = rowE N v m := by simp [rowE, List.range_succ, h]
theorem edgesE_zero (N : NetD) : edgesE N 0 = [] := rfl
theorem edgesE_succ (N : NetD) (k : Nat) : edgesE N (k + 1) = edgesE N k ++ rowE N k (nthL N.ends k).length := by simp [edgesE, List.range_succ]
theorem mem_rowE {N : NetD} {v m : Nat} {q : Quad} : q ∈ rowE N v m ↔ ∃ i, i < m ∧ firstB N v i = true ∧ q = quadAt N v i := by
  simp only [rowE, List.mem_map, List.mem_filter, List.mem_range]
  constructor
  · rintro ⟨i, ⟨h1, h2⟩, rfl⟩; exact ⟨i, h1, h2, rfl⟩
  · rintro ⟨i, h1, h2, rfl⟩; exact ⟨i, ⟨h1, h2⟩, rfl⟩
theorem mem_edges {N : NetD} {q : Quad} : q ∈ edges N ↔ ∃ v i, v < N.ends.length ∧ i < (nthL N.ends v).length ∧ firstB N v i = true ∧ q = quadAt N v i := by
  simp only [edges, edgesE, List.mem_flatMap, List.mem_range, mem_rowE]
  constructor
  · rintro ⟨v, h1, i, h2, h3, h4⟩; exact ⟨v, i, h1, h2, h3, h4⟩
  · rintro ⟨v, i, h1, h2, h3, h4⟩; exact ⟨v, h1, i, h2, h3, h4⟩
/-- an edge of a good network: its numbers, and that its two ports are joined -/
theorem edge_nat {N : NetD} (hg : N.good = true) {q : Quad} (hq : q ∈ edges N) : ∃ v i t r : Nat, q = ⟨v, i, t, r⟩ ∧ v < N.ends.length ∧ i < (nthL N.ends v).length ∧ t < N.ends.length ∧ r < (nthL N.ends t).length ∧ nthE (nthL N.ends v) i = ((t : Int), (r : Int)) ∧ nthE (nthL N.ends t) r = ((v : Int), (i : Int)) ∧ (v < t ∨ (v = t ∧ i ≤ r)) := by
  obtain ⟨v, i, h1, h2, h3, rfl⟩ := mem_edges.1 hq
  obtain ⟨t, r, e, e1, e2, e3⟩ := good_end hg h1 h2
  refine ⟨v, i, t, r, ?_, h1, h2, e1, e2, e, e3, ?_⟩
  · unfold quadAt; rw [e]
  · unfold firstB at h3; rw [e] at h3; simp at h3; omega
def stubB (q : Quad) : Bool := decide (q.v = q.w) && decide (q.i = q.j)
def NetD.stubless (N : NetD) : Bool := N.good && !(edges N).any stubB
/-- the reference's look: no port is joined with itself -/
def selfB (N : NetD) (v i : Nat) : Bool := decide (nthE (nthL N.ends v) i = ((v : Int), (i : Int)))
def noStub (N : NetD) : Bool := (List.range N.ends.length).all fun v => (List.range (nthL N.ends v).length).all fun i => !selfB N v i
theorem stub_at {N : NetD} {v i : Nat} : (firstB N v i && stubB (quadAt N v i)) = selfB N v i := by
  rw [Bool.eq_iff_iff]
  unfold firstB stubB quadAt selfB
  obtain ⟨a, b⟩ := nthE (nthL N.ends v) i
  simp
  omega
theorem noStub_eq (N : NetD) : noStub N = !(edges N).any stubB := by
  rw [Bool.eq_iff_iff, Bool.not_eq_true', Bool.eq_false_iff]
  constructor
  · intro h ha
    obtain ⟨q, hq, hs⟩ := List.any_eq_true.1 ha
    obtain ⟨v, i, h1, h2, h3, rfl⟩ := mem_edges.1 hq
    have := rangeAll_at (rangeAll_at h h1) h2
    rw [← stub_at, h3, hs] at this
    cases this
  · intro h
    refine rangeAll_true fun v hv => rangeAll_true fun i hi => ?_
    rw [Bool.not_eq_true', Bool.eq_false_iff, ← stub_at]
    intro hs
    rw [Bool.and_eq_true] at hs
    exact h (List.any_eq_true.2 ⟨_, mem_edges.2 ⟨v, i, hv, hi, hs.1, rfl⟩, hs.2⟩)
theorem stubless_good {N : NetD} (h : N.stubless = true) : N.good = true := by unfold NetD.stubless at h; rw [Bool.and_eq_true] at h; exact h.1
theorem rowE_len (N : NetD) (v m : Nat) : (rowE N v m).length ≤ m := by
  unfold rowE; rw [List.length_map]; exact Nat.le_trans (List.length_filter_le _ _) (by simp)
theorem edgesE_len {N : NetD} (hg : N.good = true) : ∀ k, k ≤ N.ends.length → (edgesE N k).length ≤ 6 * k
  | 0, _ => by simp [edgesE]
  | k + 1, hk => by
    rw [edgesE_succ, List.length_append]
    have := edgesE_len hg k (by omega)
    have := rowE_len N k (nthL N.ends k).length
    have := good_deg hg (v := k) (by omega)
    omega

end Go.Proofs.YtbbdhcfbdndhlaaDoor
