/-
  Several texts in one: QuadP, SSet, BoolS, Reg, Stp, Bss, CyP, TokE, CyA. No condition on any program.
-/
import Derived.Test.YtbfjhehhpgcelaaCvA
import Derived.Deep.Cut
import Derived.OrdersHeld
import Derived.StillTail
import Derived.Deep.RegionHeld
import Derived.Lib.Hide
import Derived.Laws.OwnMore
import Derived.BigQuiet
import Derived.Deep.QuietTactic

/- Rows of four numbers: slices of edges in memory; the edges of a network as a list; plain laws on them. -/
namespace Go.Proofs.Ytbfjhehhpgcelaa
open Go.RowKit
set_option linter.unusedVariables false

/-- an edge: node and port, node and port -/
structure Quad where
  v : Int
  i : Int
  w : Int
  j : Int
def nthQ (l : List Quad) (k : Nat) : Quad := l.getD k ⟨0, 0, 0, 0⟩
def Quad.cells (q : Quad) : List Value := [.int .i64 q.v, .int .i64 q.i, .int .i64 q.w, .int .i64 q.j]
def Quad.ints (q : Quad) : List Int := [q.v, q.i, q.w, q.j]
def flatQ (l : List Quad) : List Value := l.flatMap Quad.cells
def quadCell (l : List Quad) (j : Nat) : Value := (nthQ l (j / 4)).cells.getD (j % 4) undef
/-- v reads as the list of edges qs -/
def QuadS (w : World) (lo hi : Nat) (v : Value) (qs : List Quad) : Prop := Sl w lo hi 4 v qs.length (quadCell qs)
/-- a row of edges that the call owns -/
def OwnQd (w : World) (base : Nat) (e : TypeId) (v : Value) (qs : List Quad) : Prop := w.ownsRow base e 4 v qs.length (flatQ qs)
section
variable {w w' : World} {lo hi lo' hi' base B l2 h2 : Nat} {v : Value} {qs : List Quad} {e : TypeId} {row : Option Nat}
theorem QuadS.dims (h : QuadS w lo hi v qs) : ∃ A c, v = .slice A qs.length c ∧ qs.length ≤ c ∧ c ≤ 9223372036854775807 := by
  obtain ⟨A, c, e, h1, h2, _⟩ := h; unfold maxLen at h2; exact ⟨A, c, e, h1, h2⟩
theorem QuadS.below (h : QuadS w lo hi v qs) (hb : Below B w w') (hB : hi ≤ B) : QuadS w' lo hi v qs := Sl.below h hb hB
theorem QuadS.turned (h : QuadS w lo hi v qs) (hb : Turned l2 h2 w w') (hB : hi ≤ w.heap.size) (hd : hi ≤ l2 ∨ h2 ≤ lo) : QuadS w' lo hi v qs := Sl.turned h hb hB hd
theorem QuadS.mono (h : QuadS w lo hi v qs) (h1 : lo' ≤ lo) (h2 : hi ≤ hi') : QuadS w lo' hi' v qs := Sl.mono h h1 h2
theorem QuadS.far (h : QuadS w lo hi v qs) (hg : w.grownBy w' row) (hB : hi ≤ w.heap.size) (hr : ∀ g, row = some g → g < lo ∨ hi ≤ g) : QuadS w' lo hi v qs :=
  Sl.keep h fun k h1 h2 => hg.block k (by omega) (fun e => by have := hr k e.symm; omega)
theorem QuadS.still (h : QuadS w lo hi v qs) (hg : w.grownBy w' none) (hB : hi ≤ w.heap.size) : QuadS w' lo hi v qs := h.far hg hB (no_row _ _)
theorem QuadS.opened {A : Option Addr} {n c : Nat} (h : QuadS w lo hi (.slice A n c) qs) {k : Nat} (hk : k < qs.length) : ∃ b off, A = some ⟨b, off, none⟩ ∧ lo ≤ b ∧ b < hi ∧
    w.cell? ⟨b, off + k * 4, none⟩ = some (.int .i64 (nthQ qs k).v) ∧ w.cell? ⟨b, off + k * 4 + 1, none⟩ = some (.int .i64 (nthQ qs k).i) ∧ w.cell? ⟨b, off + k * 4 + 2, none⟩ = some (.int .i64 (nthQ qs k).w) ∧ w.cell? ⟨b, off + k * 4 + 3, none⟩ = some (.int .i64 (nthQ qs k).j) := by
  obtain ⟨A', c', e, h1, h2, h3⟩ := h
  injection e with e1 e2 e3
  subst e1
  obtain ⟨b, off, e4, h4, h5, h6⟩ := h3 (by omega)
  have g : ∀ r, r < 4 → w.cell? ⟨b, off + k * 4 + r, none⟩ = some ((nthQ qs k).cells.getD r undef) := fun r hr => by
    have := (h6 (k * 4 + r) (by omega)).1
    unfold quadCell at this
    rw [show (k * 4 + r) / 4 = k by omega, show (k * 4 + r) % 4 = r by omega, ← Nat.add_assoc] at this
    exact this
  exact ⟨b, off, e4, h4, h5, g 0 (by omega), g 1 (by omega), g 2 (by omega), g 3 (by omega)⟩
theorem OwnQd.nil (w : World) (base : Nat) (e : TypeId) : OwnQd w base e (.slice none 0 0) [] := World.ownsRow_nil w base e 4
theorem OwnQd.lt (h : OwnQd w base e v qs) : ∀ k, v.ownBlock = some k → base ≤ k ∧ k < w.heap.size := World.ownsRow.lt h
theorem OwnQd.alloc (h : OwnQd w base e v qs) (o : Obj) : OwnQd (w.alloc o) base e v qs := World.ownsRow.alloc h o
theorem OwnQd.kept {row : Option Nat} (h : OwnQd w base e v qs) (hg : w.grownBy w' row) (hne : v.ownBlock = none ∨ v.ownBlock ≠ row) : OwnQd w' base e v qs := World.ownsRow.kept h hg hne
theorem OwnQd.still (h : OwnQd w base e v qs) (hg : w.grownBy w' none) : OwnQd w' base e v qs := h.kept hg (by
  cases hv : v.ownBlock with
  | none => exact .inl rfl
  | some g => right; simp)
end

/-- append onto a row of the call's own, the new elements' cells known -/
theorem append_row {P : Program} {ops : Array Oper} {rest : List Oper} {o : Oper} {a : Act} {Q : Exit → Act → World → Prop} {t e : TypeId} {z : Value} {sz bytes : Nat}
    (ht : P.underlying t = some (.slice e)) (hinfo : (P.info? e).map (fun i => (i.zero, i.size, i.bytes)) = some (some z, sz, bytes)) (hz1 : z.cells.size = sz) (hsz : 0 < sz) (hby : bytes ≤ 64)
    (w : World) (hgd : o.guard = none) {s : Operand} (x : Operand) (ho : o.op = .call { callee := .builtin .append, args := #[s, x], argTypes := #[t, t] })
    {base : Nat} {v : Value} {n : Nat} {xs : List Value} (hown : w.ownsRow base e sz v n xs) (hs : a.eval s = v) {ad : Addr} {m c : Nat} (news : List Value) (hx : a.eval x = .slice (some ad) m c)
    (hl : news.length = m * sz) (hnews : ∀ j u, news[j]? = some u → w.cell? (ad.add j) = some u) (h1 : ∀ u ∈ news, u.oneCell' = true)
    (hlen : n + m ≤ 1099511627776) (hbase : base ≤ w.heap.size)
    (h : ∀ v' w', w'.ownsRow base e sz v' (n + m) (xs ++ news) → w.grownBy w' v.ownBlock → (v'.ownBlock = v.ownBlock ∨ v'.ownBlock = some w.heap.size) → wpList P ops Q rest (a.put o.dst v') w') :
    wpList P ops Q (o :: rest) a w := by
  obtain ⟨i, hi, hzz⟩ := Option.map_eq_some_iff.1 hinfo
  simp only [Prod.mk.injEq] at hzz
  obtain ⟨hz, hsz2, hb⟩ := hzz
  refine wpList_append_own_at w hgd s x t ho base e i z sz bytes ht hi hz hsz2 hb hz1 hsz v n xs hs hown ad m c news hx hl hnews h1 (by unfold maxLen; omega) ?_ hbase ?_
  · have : (n + m) * bytes ≤ 1099511627776 * 64 := Nat.mul_le_mul hlen hby
    omega
  · intro v' w' a1 a2 _ a4
    exact h v' w' a1 a2 a4
end Go.Proofs.Ytbfjhehhpgcelaa

/- Slices of slices of numbers that a call writes into: one number set, one row set. No condition on any program. -/
namespace Go.Proofs.Ytbfjhehhpgcelaa
open Go.RowKit
set_option linter.unusedVariables false

/-- one number of a list of lists replaced -/
def setAt (xss : List (List Int)) (a i : Nat) (z : Int) : List (List Int) := xss.set a ((nthL xss a).set i z)
theorem setAt_length (xss : List (List Int)) (a i : Nat) (z : Int) : (setAt xss a i z).length = xss.length := by simp [setAt]
theorem nthL_set {α : Type} {xss : List (List α)} {a : Nat} (ha : a < xss.length) (x : List α) (j : Nat) : nthL (xss.set a x) j = if j = a then x else nthL xss j := by
  unfold nthL
  simp only [List.getD_eq_getElem?_getD, List.getElem?_set]
  by_cases e : a = j
  · subst e; simp [ha]
  · rw [if_neg e, if_neg (fun h => e h.symm)]
theorem nthL_setAt {xss : List (List Int)} {a : Nat} (ha : a < xss.length) (i : Nat) (z : Int) (j : Nat) : nthL (setAt xss a i z) j = if j = a then (nthL xss a).set i z else nthL xss j := nthL_set ha _ _
theorem setAt_row (xss : List (List Int)) {a : Nat} (ha : a < xss.length) (i : Nat) (z : Int) (j : Nat) : (nthL (setAt xss a i z) j).length = (nthL xss j).length := by
  rw [nthL_setAt ha]
  by_cases e : j = a
  · rw [if_pos e, List.length_set, e]
  · rw [if_neg e]

/-- a place of a slice of slices whose rows lie apart: its cells, and what a store leaves -/
theorem ISSx.place {w : World} {lo hi n c : Nat} {A : Option Addr} {xss : List (List Int)} (h : IntSSx w lo hi (.slice A n c) xss) (hh : hi ≤ w.heap.size) {a i : Nat} (ha : a < xss.length) (hi' : i < (nthL xss a).length) :
    ∃ b off b2 o2 c2, A = some ⟨b, off, none⟩ ∧ lo ≤ b ∧ b < hi ∧ lo ≤ b2 ∧ b2 < hi ∧ w.cell? ⟨b, off + a, none⟩ = some (.slice (some ⟨b2, o2, none⟩) (nthL xss a).length c2) ∧ (nthL xss a).length ≤ c2 ∧ c2 ≤ 9223372036854775807 ∧
      w.cell? ⟨b2, o2 + i, none⟩ = some (.int .i64 (nth (nthL xss a) i)) ∧ w.frozen? ⟨b2, o2 + i, none⟩ = false ∧ ∀ z, IntSSx (w.setCell ⟨b2, o2 + i, none⟩ (.int .i64 z)) lo hi (.slice A n c) (setAt xss a i z) := by
  obtain ⟨vs, h1, h2, h3, h4⟩ := h
  have hrow := h2 a ha
  obtain ⟨A2, c2, e2, k1, k2⟩ := IntS.dims hrow
  rw [e2] at hrow
  obtain ⟨b2, o2, rfl, l1, l2, x1, x2⟩ := IntS.opened hrow hi'
  have htop := h1
  obtain ⟨A', c', e, m1, m2, m3⟩ := h1
  injection e with e3 e4 e5
  subst e3 e5
  obtain ⟨b, off, rfl, n1, n2, n3⟩ := m3 (by omega)
  have hva : w.cell? ⟨b, off + a, none⟩ = some (vs a) := (n3 a (by omega)).1
  rw [e2] at hva
  refine ⟨b, off, b2, o2, c2, rfl, n1, n2, l1, l2, hva, k1, k2, x1, x2, fun z => ?_⟩
  have hra : rowOf (nthL xss a).length (vs a) = some b2 := by rw [e2]; exact rowOf_some (by omega)
  have hg : w.grownBy (w.setCell ⟨b2, o2 + i, none⟩ (.int .i64 z)) (some b2) := grown_set w ⟨b2, o2 + i, none⟩ _
  have hlen : ∀ j, (nthL (setAt xss a i z) j).length = (nthL xss j).length := setAt_row xss ha i z
  refine ⟨vs, ?_, fun j hj => ?_, fun j k hjk hk => ?_, fun j hj => ?_⟩
  · rw [setAt_length]
    refine Sl.grown htop hg hh ?_
    have := h4 a ha
    rw [hra] at this
    rcases this with t | t
    · cases t
    · exact .inr fun e => t e.symm
  · rw [setAt_length] at hj
    rw [nthL_setAt ha]
    by_cases ej : j = a
    · subst ej
      rw [if_pos rfl, e2]
      exact hrow.set hi' z
    · rw [if_neg ej]
      refine Sl.grown (h2 j hj) hg hh ?_
      rw [← hra]
      by_cases hlt : j < a
      · exact h3 j a hlt ha
      · rcases h3 a j (by omega) hj with t | t
        · rw [hra] at t; cases t
        · exact .inr fun e => t e.symm
  · rw [setAt_length] at hk
    rw [hlen j, hlen k]
    exact h3 j k hjk hk
  · rw [setAt_length] at hj ⊢
    rw [hlen j]
    exact h4 j hj

theorem ISSx.far {w w' : World} {lo hi : Nat} {v : Value} {xss : List (List Int)} {row : Option Nat} (h : IntSSx w lo hi v xss) (hg : w.grownBy w' row) (hB : hi ≤ w.heap.size) (hr : ∀ g, row = some g → g < lo ∨ hi ≤ g) : IntSSx w' lo hi v xss :=
  SSx.keep (fun h => IntS.far h hg hB hr) h fun k h1 h2 => hg.block k (by omega) (fun e => by have := hr k e.symm; omega)
theorem ISSx.still {w w' : World} {lo hi : Nat} {v : Value} {xss : List (List Int)} (h : IntSSx w lo hi v xss) (hg : w.grownBy w' none) (hB : hi ≤ w.heap.size) : IntSSx w' lo hi v xss := ISSx.far h hg hB (no_row _ _)
theorem ISSx.dims {w : World} {lo hi : Nat} {v : Value} {xss : List (List Int)} (h : IntSSx w lo hi v xss) : ∃ A c, v = .slice A xss.length c ∧ xss.length ≤ c ∧ c ≤ 9223372036854775807 := SS.dims h.ss
end Go.Proofs.Ytbfjhehhpgcelaa

/- Slices of truth values in memory; plain laws on least free numbers and on permutations. -/
namespace Go.Proofs.Ytbfjhehhpgcelaa
open Go.RowKit
set_option linter.unusedVariables false

def nthB (bs : List Bool) (i : Nat) : Bool := bs.getD i false
theorem nthB_eq {bs : List Bool} {i : Nat} (h : i < bs.length) : nthB bs i = bs[i] := by simp [nthB, h]
theorem nthB_set (bs : List Bool) (j i : Nat) (b : Bool) (hj : j < bs.length) : nthB (bs.set j b) i = if i = j then b else nthB bs i := by
  unfold nthB
  simp only [List.getD_eq_getElem?_getD, List.getElem?_set]
  by_cases e : j = i
  · subst e; simp [hj]
  · rw [if_neg e, if_neg (fun h => e h.symm)]
theorem nthB_replicate (n : Nat) (b : Bool) {i : Nat} (h : i < n) : nthB (List.replicate n b) i = b := by rw [nthB_eq (by simpa using h)]; simp
/-- v reads as the list of truth values bs -/
def BoolS (w : World) (lo hi : Nat) (v : Value) (bs : List Bool) : Prop := Sl w lo hi 1 v bs.length fun j => .bool (nthB bs j)
section
variable {w w' : World} {lo hi lo' hi' B l2 h2 : Nat} {v : Value} {bs : List Bool} {row : Option Nat}
theorem BoolS.dims (h : BoolS w lo hi v bs) : ∃ A c, v = .slice A bs.length c ∧ bs.length ≤ c ∧ c ≤ 9223372036854775807 := by
  obtain ⟨A, c, e, h1, h2, _⟩ := h; unfold maxLen at h2; exact ⟨A, c, e, h1, h2⟩
theorem BoolS.below (h : BoolS w lo hi v bs) (hb : Below B w w') (hB : hi ≤ B) : BoolS w' lo hi v bs := Sl.below h hb hB
theorem BoolS.turned (h : BoolS w lo hi v bs) (hb : Turned l2 h2 w w') (hB : hi ≤ w.heap.size) (hd : hi ≤ l2 ∨ h2 ≤ lo) : BoolS w' lo hi v bs := Sl.turned h hb hB hd
theorem BoolS.mono (h : BoolS w lo hi v bs) (h1 : lo' ≤ lo) (h2 : hi ≤ hi') : BoolS w lo' hi' v bs := Sl.mono h h1 h2
theorem BoolS.far (h : BoolS w lo hi v bs) (hg : w.grownBy w' row) (hB : hi ≤ w.heap.size) (hr : ∀ g, row = some g → g < lo ∨ hi ≤ g) : BoolS w' lo hi v bs :=
  Sl.keep h fun k h1 h2 => hg.block k (by omega) (fun e => by have := hr k e.symm; omega)
theorem BoolS.still (h : BoolS w lo hi v bs) (hg : w.grownBy w' none) (hB : hi ≤ w.heap.size) : BoolS w' lo hi v bs := h.far hg hB (no_row _ _)
theorem BoolS.at_ {b off n c : Nat} (h : BoolS w lo hi (.slice (some ⟨b, off, none⟩) n c) bs) {j : Nat} (hj : j < bs.length) : w.cell? ⟨b, off + j, none⟩ = some (.bool (nthB bs j)) ∧ w.frozen? ⟨b, off + j, none⟩ = false := by
  obtain ⟨A, c', e, _⟩ := id h
  injection e with e1 e2 e3
  subst e2
  exact Sl.at_ h (by omega)
theorem BoolS.set {b off n c : Nat} (h : BoolS w lo hi (.slice (some ⟨b, off, none⟩) n c) bs) {j : Nat} (hj : j < bs.length) (z : Bool) :
    BoolS (w.setCell ⟨b, off + j, none⟩ (.bool z)) lo hi (.slice (some ⟨b, off, none⟩) n c) (bs.set j z) := by
  obtain ⟨A, c', e, _⟩ := id h
  injection e with e1 e2 e3
  subst e2
  have := Sl.set h (j := j) (by omega) (.bool z)
  unfold BoolS
  rw [List.length_set]
  exact this.congr fun i hi => by
    rw [nthB_set _ _ _ _ hj]
    by_cases e : i = j <;> simp [e]
theorem BoolS.at0 {b n c : Nat} (h : BoolS w lo hi (.slice (some ⟨b, 0, none⟩) n c) bs) {j : Nat} (hj : j < bs.length) : w.cell? ⟨b, j, none⟩ = some (.bool (nthB bs j)) ∧ w.frozen? ⟨b, j, none⟩ = false := by
  have := h.at_ hj; rwa [Nat.zero_add] at this
theorem BoolS.set0 {b n c : Nat} (h : BoolS w lo hi (.slice (some ⟨b, 0, none⟩) n c) bs) {j : Nat} (hj : j < bs.length) (z : Bool) :
    BoolS (w.setCell ⟨b, j, none⟩ (.bool z)) lo hi (.slice (some ⟨b, 0, none⟩) n c) (bs.set j z) := by
  have := h.set hj z; rwa [Nat.zero_add] at this
theorem BoolS.opened {A : Option Addr} {n c : Nat} (h : BoolS w lo hi (.slice A n c) bs) {j : Nat} (hj : j < bs.length) : ∃ b off, A = some ⟨b, off, none⟩ ∧ lo ≤ b ∧ b < hi ∧ w.cell? ⟨b, off + j, none⟩ = some (.bool (nthB bs j)) ∧ w.frozen? ⟨b, off + j, none⟩ = false := by
  obtain ⟨A', c', e, h1, h2, h3⟩ := id h
  injection e with e1 e2 e3
  subst e1
  obtain ⟨b, off, e4, h4, h5, h6⟩ := h3 (by omega)
  exact ⟨b, off, e4, h4, h5, h6 j (by omega)⟩
theorem BoolS.of_row {b n : Nat} {t : TypeId} (h : w.rowIs b t n (fun j => .bool (nthB bs j))) (hn : bs.length = n) (hm : n ≤ maxLen) : BoolS w b (b + 1) (.slice (some ⟨b, 0, none⟩) n n) bs := by
  subst hn
  refine ⟨_, _, rfl, Nat.le_refl _, hm, fun hpos => ⟨b, 0, rfl, Nat.le_refl _, by omega, fun j hj => ?_⟩⟩
  rw [Nat.zero_add]
  exact ⟨h.cell (by omega), h.frozen j⟩
end
/-- rows just made -/
theorem made_ints (w : World) (n : Nat) (t : TypeId) {g : Nat} (hg : w.heap.size = g) (hn : n ≤ 1099511627776) : IntS (w.alloc (.cells (madeCells #[.int .i64 0] n) t)) g (g + 1) (.slice (some ⟨g, 0, none⟩) n n) (List.replicate n 0) := by
  subst hg
  exact IntS.of_row (t := t) ((World.rowIs_made w (.int .i64 0) n t).congr fun j hj => by rw [nth_replicate _ _ hj]) (by simp) (by unfold maxLen; omega)
theorem made_bools (w : World) (n : Nat) (t : TypeId) {g : Nat} (hg : w.heap.size = g) (hn : n ≤ 1099511627776) : BoolS (w.alloc (.cells (madeCells #[.bool false] n) t)) g (g + 1) (.slice (some ⟨g, 0, none⟩) n n) (List.replicate n false) := by
  subst hg
  exact BoolS.of_row (t := t) ((World.rowIs_made w (.bool false) n t).congr fun j hj => by rw [nthB_replicate _ _ hj]) (by simp) (by unfold maxLen; omega)

end Go.Proofs.Ytbfjhehhpgcelaa

/- Regions that draw their order, whose last operations store into cells that the others load: a condition on the world that need hold only behind the operations before number T; each operation from T on waits for all of these. No condition on any program. -/
namespace Go.Proofs.Ytbfjhehhpgcelaa
open Go.RowKit
set_option linter.unusedVariables false

section
variable {P : Program} {md : Region.Mode} {ops : Array Oper} {Q : Exit → Act → World → Prop} {S : World → Prop} {T : List Nat}
/-- whatever order is drawn; behind each operation before number T the condition S holds -/
def anyU (P : Program) (md : Region.Mode) (ops : Array Oper) (Q : Exit → Act → World → Prop) (S : World → Prop) (T : List Nat) : Nat → Array Bool → Act → World → Prop
  | 0, listed, a, w => Region.ready md ops listed = [] ∧ Q .normal a w
  | fuel + 1, listed, a, w => (Region.ready md ops listed = [] → Q .normal a w) ∧
    ∀ i ∈ Region.ready md ops listed, wpOp P ops Q i (fun a' w' => (T.contains i = false → S w') ∧ anyU P md ops Q S T fuel (listed.setIfInBounds i true) a' w') a w
theorem any_of_U : ∀ (fuel : Nat) (listed : Array Bool) (a : Act) (w : World), anyU P md ops Q S T fuel listed a w → wpAny P md ops Q fuel listed a w
  | 0, _, _, _, h => h
  | fuel + 1, _, _, _, h => ⟨h.1, fun i hi => wpOp_mono (fun _ _ k => any_of_U fuel _ _ _ k.2) (h.2 i hi)⟩
/-- whom an operation waits for -/
def onsOf (md : Region.Mode) (ops : Array Oper) (j : Nat) : List Nat := match ops[j]? with
  | some oj => (oj.after.toList.filter fun e => Region.binds md e).map fun e => e.on
  | none => []
/-- number j waits for number i, at first or at second hand -/
def ancB (md : Region.Mode) (ops : Array Oper) : Nat → Nat → Nat → Bool
  | 0, j, i => (onsOf md ops j).contains i
  | f + 1, j, i => (onsOf md ops j).contains i || (onsOf md ops j).any fun k => ancB md ops f k i
/-- each of the operations T has come up, or waits for number i -/
def waitsB (md : Region.Mode) (ops : Array Oper) (T : List Nat) (listed : Array Bool) (i : Nat) : Bool := T.all fun t => listed.getD t false || ancB md ops 14 t i
def Closed (md : Region.Mode) (ops : Array Oper) (listed : Array Bool) : Prop := ∀ j k, listed.getD j false = true → k ∈ onsOf md ops j → listed.getD k false = true
def closedB (md : Region.Mode) (ops : Array Oper) (listed : Array Bool) : Bool := (List.range ops.size).all fun j => !listed.getD j false || (onsOf md ops j).all fun k => listed.getD k false
theorem closedB_is {listed : Array Bool} (h : closedB md ops listed = true) : Closed md ops listed := fun j k hj hk => by
  have hjl : j < ops.size := by
    unfold onsOf at hk
    split at hk
    · rename_i oj ho; exact (Array.getElem?_eq_some_iff.1 ho).1
    · cases hk
  have := List.all_eq_true.1 h j (List.mem_range.2 hjl)
  rw [hj, Bool.not_true, Bool.false_or, List.all_eq_true] at this
  exact this k hk
theorem ready_ons {listed : Array Bool} {j : Nat} (h : j ∈ Region.ready md ops listed) : ∀ k ∈ onsOf md ops j, listed.getD k false = true := fun k hk => by
  obtain ⟨_, oj, hoj, hall⟩ := mem_ready.1 h
  unfold onsOf at hk
  rw [hoj] at hk
  simp only [List.mem_map, List.mem_filter] at hk
  obtain ⟨e, ⟨he, hb⟩, rfl⟩ := hk
  exact hall e (by simpa using he) hb
theorem anc_listed {listed : Array Bool} (hc : Closed md ops listed) : ∀ {f j i : Nat}, ancB md ops f j i = true → (∀ k ∈ onsOf md ops j, listed.getD k false = true) → listed.getD i false = true
  | 0, j, i, h, hj => hj i (by simpa [ancB] using h)
  | f + 1, j, i, h, hj => by
    rw [ancB, Bool.or_eq_true] at h
    rcases h with h | h
    · exact hj i (by simpa using h)
    · obtain ⟨k, hk, h⟩ := List.any_eq_true.1 h
      exact anc_listed hc h fun m hm => hc k m (hj k hk) hm
theorem Closed.set {listed : Array Bool} {j : Nat} (hc : Closed md ops listed) (h : j ∈ Region.ready md ops listed) : Closed md ops (listed.setIfInBounds j true) := fun a k ha hk => by
  by_cases e : j = a
  · subst e; exact getD_set_true (ready_ons h k hk)
  · rw [getD_set_ne false e] at ha
    exact getD_set_true (hc a k ha hk)
theorem anyU_first {i : Nat} {oi : Oper} {v : Value} (hi : ops[i]? = some oi) (hsel : ∀ (j : Nat) (o : Oper) cs b, ops[j]? = some o → o.op ≠ .select cs b)
    (hQ : ∀ c a w, Q (.panic c) (a.put oi.dst v) w → Q (.panic c) a w) :
    ∀ (fuel : Nat) (listed : Array Bool) (a : Act) (w : World),
      (∀ j oj, ops[j]? = some oj → j ≠ i → listed.getD j true = false → (∀ e ∈ oj.after, Region.binds md e = true → e.on ≠ i) → oi.apart ops oj = true) →
      Closed md ops listed → waitsB md ops T listed i = true → i ∈ Region.ready md ops listed → YieldsIf P ops S oi v a → S w →
      anyU P md ops Q S T fuel (listed.setIfInBounds i true) (a.put oi.dst v) w → anyU P md ops Q S T (fuel + 1) listed a w := by
  -- nobody who waits for number i is ready while i is not listed
  have hno : ∀ (listed : Array Bool) (j : Nat) (oj : Oper), i ∈ Region.ready md ops listed → (∀ e ∈ oj.after, Region.binds md e = true → listed.getD e.on false = true) → ∀ e ∈ oj.after, Region.binds md e = true → e.on ≠ i := by
    intro listed j oj hr hall e he hb heq
    have h1 := hall e he hb
    have h0 := (mem_ready.1 hr).1
    rw [heq] at h1
    rcases Nat.lt_or_ge i listed.size with h' | h'
    · simp [h'] at h0 h1; rw [h0] at h1; cases h1
    · simp [Array.getElem?_eq_none h'] at h1
  have hlow : ∀ (listed : Array Bool) (j : Nat), Closed md ops listed → waitsB md ops T listed i = true → i ∈ Region.ready md ops listed → j ∈ Region.ready md ops listed → T.contains j = false := by
    intro listed j hc hw hr hj
    rw [Bool.eq_false_iff]
    intro hT
    have h2 := List.all_eq_true.1 hw j (by simpa using hT)
    have hju := (mem_ready.1 hj).1
    have hjn : listed.getD j false = false := by
      rcases Nat.lt_or_ge j listed.size with h' | h'
      · simp [h'] at hju ⊢; exact hju
      · simp [Array.getElem?_eq_none h']
    rw [hjn, Bool.false_or] at h2
    have h1 := anc_listed hc h2 (ready_ons hj)
    have h0 := (mem_ready.1 hr).1
    rcases Nat.lt_or_ge i listed.size with h' | h'
    · simp [h'] at h0 h1; rw [h0] at h1; cases h1
    · simp [Array.getElem?_eq_none h'] at h1
  intro fuel
  induction fuel with
  | zero =>
    intro listed a w _ hc hw hr hy hS H
    refine ⟨fun h => (by rw [h] at hr; cases hr), fun j hj => ?_⟩
    by_cases hji : j = i
    · subst hji; exact hy.wpOp hi hS ⟨fun _ => hS, H⟩
    · have h1 := ready_mono hj hji
      rw [H.1] at h1; cases h1
  | succ fuel ih =>
    intro listed a w hfree hc hw hr hy hS H
    refine ⟨fun h => (by rw [h] at hr; cases hr), fun j hj => ?_⟩
    by_cases hji : j = i
    · subst hji; exact hy.wpOp hi hS ⟨fun _ => hS, H⟩
    · have hjT := hlow listed j hc hw hr hj
      have h1 := H.2 j (ready_mono hj hji)
      obtain ⟨hjun, oj, hoj, hall⟩ := mem_ready.1 hj
      have h2 := wpOp_putIf hoj (hfree j oj hoj hji hjun (hno listed j oj hr hall)) (fun cs b => hsel i oi cs b hi) (fun cs b => hsel j oj cs b hoj) hQ hy h1
      refine wpOp_mono (fun a' w' h3 => ⟨h3.2.1, ih (listed.setIfInBounds j true) a' w' (fun k ok hk hki hun hn => ?_) (hc.set hj) ?_ (ready_mono hr (Ne.symm hji)) h3.1 (h3.2.1 hjT) ?_⟩) h2
      · refine hfree k ok hk hki ?_ hn
        by_cases hjk : j = k
        · rw [← hjk]; exact hjun
        · rwa [getD_set_ne true hjk] at hun
      · unfold waitsB at hw ⊢
        rw [List.all_eq_true] at hw ⊢
        intro t ht
        have h5 := hw t ht
        rw [Bool.or_eq_true] at h5 ⊢
        exact h5.imp getD_set_true id
      · rw [Array.setIfInBounds_comm _ _ hji]
        exact h3.2.2
theorem anyU_take {i : Nat} {oi : Oper} {v : Value} {fuel : Nat} {listed : Array Bool} {a : Act} {w : World} (hi : ops[i]? = some oi)
    (hs : (Region.noSelect ops && waitsB md ops T listed i) = true) (hf : (Region.free md ops listed i && closedB md ops listed) = true) (hr : (Region.ready md ops listed).contains i = true)
    (hQ : ∀ c a w, Q (.panic c) (a.put oi.dst v) w → Q (.panic c) a w) (hy : Region.wanted oi (yielded ops a.tmps) = true ∧ ∀ w, S w → (execOp a.eval oi).run P w = .ok (.value v) w) (hS : S w)
    (h : anyU P md ops Q S T fuel (listed.setIfInBounds i true) (a.put oi.dst v) w) : anyU P md ops Q S T (fuel + 1) listed a w := by
  rw [Bool.and_eq_true] at hs hf
  exact anyU_first hi (Region.noSelect_spec hs.1) hQ fuel listed a w (Region.free_spec hi hf.1) (closedB_is hf.2) hs.2 (by simpa using hr) (.inl hy) hS h
/-- each of these comes up next -/
def ReadyU (P : Program) (md : Region.Mode) (ops : Array Oper) (Q : Exit → Act → World → Prop) (S : World → Prop) (T : List Nat) (fuel : Nat) (listed : Array Bool) (a : Act) (w : World) (rs : List Nat) : Prop :=
  ∀ i ∈ rs, wpOp P ops Q i (fun a' w' => (T.contains i = false → S w') ∧ anyU P md ops Q S T fuel (listed.setIfInBounds i true) a' w') a w
theorem ReadyU.nil {fuel : Nat} {listed : Array Bool} {a : Act} {w : World} : ReadyU P md ops Q S T fuel listed a w [] := fun _ h => by cases h
theorem ReadyU.cons {fuel : Nat} {listed : Array Bool} {a : Act} {w : World} {i : Nat} {o : Oper} {rs : List Nat} (ho : ops[i]? = some o)
    (h : ∀ K' : Act → World → Prop, Shut (∀ a w, ((T.contains i = false → S w) ∧ anyU P md ops Q S T fuel (listed.setIfInBounds i true) a w) → K' a w) → if Region.wanted o (yielded ops a.tmps) = true then Oper.wp P o a w K' Q else K' (a.put o.dst undef) w)
    (hs : ReadyU P md ops Q S T fuel listed a w rs) : ReadyU P md ops Q S T fuel listed a w (i :: rs) := fun j hj => by
  rcases List.mem_cons.1 hj with rfl | hj
  · exact wpOp_step ho (fun K' hK => h K' hK)
  · exact hs j hj
theorem anyU_ready {rs : List Nat} {fuel : Nat} {listed : Array Bool} {a : Act} {w : World} (hr : Region.ready md ops listed = rs) (hne : rs ≠ [])
    (h : ReadyU P md ops Q S T fuel listed a w rs) : anyU P md ops Q S T (fuel + 1) listed a w := ⟨fun h0 => absurd (hr ▸ h0) hne, hr ▸ h⟩
theorem anyU_done {listed : Array Bool} {a : Act} {w : World} (hr : Region.ready md ops listed = []) (h : Q .normal a w) : ∀ fuel, anyU P md ops Q S T fuel listed a w
  | 0 => ⟨hr, h⟩
  | _ + 1 => ⟨fun _ => h, by rw [hr]; simp⟩
theorem nameU {fuel : Nat} {listed : Array Bool} {a : Act} {w : World} (h : ∀ W, Hid (W = w) → anyU P md ops Q S T fuel listed a W) : anyU P md ops Q S T fuel listed a w := h w (Lib.hid rfl)
theorem wp_region_U {id : Nat} {a : Act} {w : World} (S : World → Prop) (T : List Nat) (hm : P.follows .mixedOrders = true)
    (h : anyU P .any ops Q S T ops.size (Array.replicate ops.size false) a w.drew) : (Code.region id ops true).wp P Q a w :=
  wp_region_any hm (any_of_U _ _ _ _ h)
end

/-- what two rows' growing leaves: blocks that are neither's row are as they were -/
structure Grown2 (w w' : World) (r1 r2 : Option Nat) : Prop where
  os : w'.os = w.os
  tape : w'.tape = w.tape
  output : w'.output = w.output
  size : w.heap.size ≤ w'.heap.size
  block : ∀ k, k < w.heap.size → some k ≠ r1 → some k ≠ r2 → w'.heap[k]? = w.heap[k]?
theorem Grown2.refl (w : World) (r1 r2 : Option Nat) : Grown2 w w r1 r2 := ⟨rfl, rfl, rfl, Nat.le_refl _, fun _ _ _ _ => rfl⟩
theorem Grown2.none {a b c : World} {r1 r2 : Option Nat} (h : Grown2 a b r1 r2) (k : b.grownBy c none) : Grown2 a c r1 r2 :=
  ⟨k.os.trans h.os, k.tape.trans h.tape, k.output.trans h.output, Nat.le_trans h.size k.size, fun i hi h1 h2 => (k.block i (Nat.lt_of_lt_of_le hi h.size) (by simp)).trans (h.block i hi h1 h2)⟩
theorem Grown2.fst {a b c : World} {r1 r2 : Option Nat} (h : Grown2 a b r1 r2) (k : b.grownBy c r1) : Grown2 a c r1 r2 :=
  ⟨k.os.trans h.os, k.tape.trans h.tape, k.output.trans h.output, Nat.le_trans h.size k.size, fun i hi h1 h2 => (k.block i (Nat.lt_of_lt_of_le hi h.size) h1).trans (h.block i hi h1 h2)⟩
end Go.Proofs.Ytbfjhehhpgcelaa

/- Steps of regions that draw their order: an append of a row that the call owns too; a region cut behind its operations. No condition on any program. -/
namespace Go.Proofs.Ytbfjhehhpgcelaa
open Go.ChangeShapes Go.WideShapes Go.ChangeAt Go.RowKit
set_option linter.unusedVariables false

/-- append, at a step of a region that draws its order, of a row that the call owns too -/
theorem step_append_own2 {P : Program} {ops : Array Oper} {o : Oper} {a : Act} {K : Act → World → Prop} {Q : Exit → Act → World → Prop} {E : Prop} {t e : TypeId} {z : Value} {sz bytes : Nat}
    (ht : P.underlying t = some (.slice e)) (hinfo : (P.info? e).map (fun i => (i.zero, i.size, i.bytes)) = some (some z, sz, bytes)) (hz1 : z.cells.size = sz) (hsz : 0 < sz) (hby : bytes ≤ 64)
    (w : World) (hgd : o.guard = none) {s : Operand} (x : Operand) (ho : o.op = .call { callee := .builtin .append, args := #[s, x], argTypes := #[t, t] })
    {base : Nat} {v : Value} {n : Nat} {xs : List Value} (hown : w.ownsRow base e sz v n xs) (hs : a.eval s = v) {base2 : Nat} {e2 : TypeId} {v2 : Value} {m : Nat} (news : List Value) (hown2 : w.ownsRow base2 e2 sz v2 m news) (hx : a.eval x = v2)
    (h1 : ∀ u ∈ news, u.oneCell' = true) (hlen : n + m ≤ 1099511627776) (hbase : base ≤ w.heap.size)
    (h : ∀ v' w', w'.ownsRow base e sz v' (n + m) (xs ++ news) → w.grownBy w' v.ownBlock → (v'.ownBlock = v.ownBlock ∨ ∃ g, v'.ownBlock = some g ∧ w.heap.size ≤ g) → K (a.put o.dst v') w') :
    if Region.wanted o (yielded ops a.tmps) = true then Oper.wp P o a w K Q else E := by
  have hw : Region.wanted o (yielded ops a.tmps) = true := by simp [Region.wanted, hgd]
  rw [if_pos hw]
  obtain ⟨i, hi, hzz⟩ := Option.map_eq_some_iff.1 hinfo
  simp only [Prod.mk.injEq] at hzz
  obtain ⟨hz, hsz2, hb⟩ := hzz
  obtain ⟨hl2, h2⟩ := hown2
  rcases h2 with ⟨rfl, hm0⟩ | ⟨g2, cap2, cur2, rfl, hg2, hh2, hn2, hm2, hs2, ht2⟩
  · subst hm0
    have hnil : news = [] := List.eq_nil_of_length_eq_zero (by rw [hl2, Nat.zero_mul])
    subst hnil
    have hrun := run_append_owned_none (P := P) (w := w) base t o.type e i sz ht hi v n xs hown
    have h3 := h v w (by simpa using hown) ⟨rfl, rfl, rfl, Nat.le_refl _, fun _ _ _ => rfl⟩ (.inl rfl)
    unfold Oper.wp
    simp [execOp, ho, resolve, invoke, builtin, hs, hx, hrun, Result.andThen]
    exact h3
  · have hnews : ∀ j u, news[j]? = some u → w.cell? ((⟨g2, 0, none⟩ : Addr).add j) = some u := fun j u hj => by
      have hjl : j < m * sz := by rw [← hl2]; exact (List.getElem?_eq_some_iff.1 hj).1
      rw [Go.WideShapes.add_plain g2 0 j, cell_of_row w g2 _ cur2 e2 (0, 0) hh2, Nat.zero_add]
      rw [← ht2, List.getElem?_take_of_lt hjl] at hj
      simpa using hj
    obtain ⟨v', w', hr, a1, a2, _, a4⟩ := run_append_own_at (P := P) w base t o.type e i z sz bytes ht hi hz hsz2 hb hz1 hsz v n xs hown ⟨g2, 0, none⟩ m cap2 news hl2 hnews h1 (by unfold maxLen; omega) (by
      have : (n + m) * bytes ≤ 1099511627776 * 64 := Nat.mul_le_mul hlen hby
      omega) hbase
    have h3 := h v' w' a1 a2 (a4.imp id fun e => ⟨_, e, Nat.le_refl _⟩)
    unfold Oper.wp execOp
    simp only [ho, resolve, invoke, builtin, Sem.run_bind, Sem.run_pure, Result.andThen_ok, List.map_toArray, List.map_cons, List.map_nil, hs, hx, hr]
    exact h3
/-- a block known whole is a row of one -/
theorem owns_box {w : World} {g : Nat} {cs : Array Value} {e : TypeId} (h : BoxN w g cs e) {k : Nat} (hk : cs.size = k) (base : Nat) (hb : base ≤ g) : w.ownsRow base e k (.slice (some ⟨g, 0, none⟩) 1 1) 1 cs.toList := by
  have h' : w.heap[g]? = some (.cells cs e (0, 0)) := h
  exact ⟨by simp [hk], .inr ⟨g, 1, cs, rfl, hb, h', Nat.le_refl _, by unfold maxLen; omega, by omega, List.take_of_length_le (by simp [hk])⟩⟩
theorem run_append_zero {P : Program} {w : World} (base : Nat) (t ty e : TypeId) (i : TypeInfo) (size : Nat) (ht : P.underlying t = some (.slice e)) (hi : P.info? e = some i)
    (v : Value) (n : Nat) (xs : List Value) (hown : w.ownsRow base e size v n xs) (A : Option Addr) (c : Nat) :
    (Builtin.append_ #[t, t] ty #[v, .slice A 0 c]).run P w = .ok v w := by
  rcases hown.2 with ⟨rfl, rfl⟩ | ⟨g, cap, cur, rfl, _, _, hnc, _⟩
  · cases A <;> simp [Builtin.append_, run_underlying ht, sizeOf, typeInfo, hi, Builtin.lenOf, Builtin.firstCells, loadCells, loadCellsFrom]
  · cases A <;> simp [Builtin.append_, run_underlying ht, sizeOf, typeInfo, hi, Builtin.lenOf, Builtin.firstCells, hnc, storeCells, loadCells, loadCellsFrom]
/-- append of nothing, wherever it lies -/
theorem append_zero {P : Program} {ops : Array Oper} {rest : List Oper} {o : Oper} {a : Act} {Q : Exit → Act → World → Prop} {t e : TypeId} {i : TypeInfo} {size : Nat}
    (ht : P.underlying t = some (.slice e)) (hi : P.info? e = some i) (w : World) (hgd : o.guard = none) {s : Operand} (x : Operand) (ho : o.op = .call { callee := .builtin .append, args := #[s, x], argTypes := #[t, t] })
    {base : Nat} {v : Value} {n : Nat} {xs : List Value} (hown : w.ownsRow base e size v n xs) (hs : a.eval s = v) {A : Option Addr} {c : Nat} (hx : a.eval x = .slice A 0 c)
    (h : wpList P ops Q rest (a.put o.dst v) w) : wpList P ops Q (o :: rest) a w := by
  refine wpList_plain hgd fun K hK => ?_
  have hrun := run_append_zero (P := P) (w := w) base t o.type e i size ht hi v n xs hown A c
  unfold Oper.wp
  simp [execOp, ho, resolve, invoke, builtin, hs, hx, hrun, Result.andThen]
  exact hK _ _ h
theorem nameA {K : Act → World → Prop} {a : Act} {w : World} (h : ∀ W, Hid (W = w) → K a W) : K a w := h w (Lib.hid rfl)
/-- a cell that is known -/
structure CellH (w : World) (p : Addr) (v : Value) : Prop where
  cell : w.cell? p = some v
  lt : p.block < w.heap.size
theorem CellH.far {w w' : World} {p : Addr} {v : Value} {row : Option Nat} (h : CellH w p v) (hg : w.grownBy w' row) (hr : ∀ g, row = some g → g ≠ p.block) : CellH w' p v :=
  ⟨(World.cell?_of_block (hg.block p.block h.lt (fun e => hr _ e.symm rfl))).trans h.cell, Nat.lt_of_lt_of_le h.lt hg.size⟩
theorem CellH.still {w w' : World} {p : Addr} {v : Value} (h : CellH w p v) (hg : w.grownBy w' none) : CellH w' p v := h.far hg (fun g e => by cases e)
end Go.Proofs.Ytbfjhehhpgcelaa

/- Slices of slices of booleans that a call owns and appends rows to; a place of one, and what a store leaves. No condition on any program. -/
namespace Go.Proofs.Ytbfjhehhpgcelaa
open Go.RowKit
set_option linter.unusedVariables false
abbrev BoolSSx := SSx BoolS

/-- v is a slice of slices that reads as xss; its own row lies from block base on; its rows lie one behind the other, from base on and below top -/
def OwnBS (w : World) (base top : Nat) (e : TypeId) (v : Value) (xss : List (List Bool)) : Prop :=
  ∃ (vs : List Value) (lo hi : Nat → Nat), vs.length = xss.length ∧ Own w base e v vs ∧ base ≤ top ∧ top ≤ w.heap.size ∧
    (∀ j, j < xss.length → ∃ u, vs[j]? = some u ∧ base ≤ lo j ∧ hi j ≤ top ∧ BoolS w (lo j) (hi j) u (nthL xss j) ∧ ∀ g, v.ownBlock = some g → g < lo j ∨ hi j ≤ g) ∧
    ∀ i j, i < j → j < xss.length → hi i ≤ lo j


section
variable {w w' : World} {base top : Nat} {e : TypeId} {v : Value} {xss : List (List Bool)}
theorem OwnBS.nil (w : World) (base top : Nat) (e : TypeId) (h1 : base ≤ top) (h2 : top ≤ w.heap.size) : OwnBS w base top e (.slice none 0 0) [] :=
  ⟨[], fun _ => 0, fun _ => 0, rfl, Own.nil _ _ _, h1, h2, fun j hj => absurd hj (by simp), fun i j _ hj => absurd hj (by simp)⟩
theorem OwnBS.below (h : OwnBS w base top e v xss) (hb : Below w.heap.size w w') : OwnBS w' base top e v xss := by
  obtain ⟨vs, lo, hi, h1, h2, h3, h4, h5, h6⟩ := h
  refine ⟨vs, lo, hi, h1, h2.kept (row := none) ⟨hb.os, hb.tape, hb.output, hb.size, fun k hk _ => hb.block k hk⟩ (by cases hv : v.ownBlock with
    | none => exact .inl rfl
    | some g => right; simp), h3, Nat.le_trans h4 hb.size, fun j hj => ?_, h6⟩
  obtain ⟨u, a1, a2, a3, a4, a5⟩ := h5 j hj
  exact ⟨u, a1, a2, a3, a4.below hb (by omega), a5⟩
theorem OwnBS.alloc (h : OwnBS w base top e v xss) (o : Obj) : OwnBS (w.alloc o) base top e v xss := h.below ((Below.refl _ _).alloc (Nat.le_refl _) o)
theorem OwnBS.drew (h : OwnBS w base top e v xss) : OwnBS w.drew base top e v xss := h
theorem OwnBS.drewN (h : OwnBS w base top e v xss) (k : Nat) : OwnBS (w.drewN k) base top e v xss := h
theorem OwnBS.len (h : OwnBS w base top e v xss) : ∃ A c, v = .slice A xss.length c ∧ xss.length ≤ c ∧ c ≤ maxLen := by
  obtain ⟨vs, lo, hi, h1, h2, _⟩ := h
  obtain ⟨A, c, e, a1, a2, _⟩ := h2.form
  exact ⟨A, c, by rw [e, h1], by omega, a2⟩
theorem OwnBS.lt (h : OwnBS w base top e v xss) : ∀ k, v.ownBlock = some k → base ≤ k ∧ k < w.heap.size := by
  obtain ⟨vs, lo, hi, h1, h2, _⟩ := h
  exact h2.lt
theorem OwnBS.mono (h : OwnBS w base top e v xss) {top' : Nat} (h1 : top ≤ top') (h2 : top' ≤ w.heap.size) : OwnBS w base top' e v xss := by
  obtain ⟨vs, lo, hi, a1, a2, a3, a4, a5, a6⟩ := h
  refine ⟨vs, lo, hi, a1, a2, by omega, h2, fun j hj => ?_, a6⟩
  obtain ⟨u, b1, b2, b3, b4, b5⟩ := a5 j hj
  exact ⟨u, b1, b2, by omega, b4, b5⟩
theorem OwnBS.ssx (h : OwnBS w base top e v xss) : BoolSSx w base w.heap.size v xss := by
  obtain ⟨vs, lo, hi, h1, h2, h3, h4, h5, h6⟩ := h
  have hsl : Sl w base w.heap.size 1 v xss.length (fun j => vs.getD j undef) := by
    have := Sl.of_own (f := fun j => vs.getD j undef) h2 (fun j hj => by simp at hj; simp [hj])
    rwa [h1] at this
  have hr : ∀ j, j < xss.length → BoolS w (lo j) (hi j) (vs.getD j undef) (nthL xss j) ∧ base ≤ lo j ∧ hi j ≤ top ∧ ∀ g, v.ownBlock = some g → g < lo j ∨ hi j ≤ g := fun j hj => by
    obtain ⟨u, a1, a2, a3, a4, a5⟩ := h5 j hj
    have : vs.getD j undef = u := by simp [a1]
    rw [this]
    exact ⟨a4, a2, a3, a5⟩
  refine ⟨fun j => vs.getD j undef, hsl, fun i hi' => (hr i hi').1.mono (hr i hi').2.1 (by have := (hr i hi').2.2.1; omega), fun i j hij hj => ?_, fun i hi' => ?_⟩
  · obtain ⟨a1, _⟩ := hr i (by omega)
    obtain ⟨b1, _⟩ := hr j hj
    rcases Sl.row a1 with e1 | ⟨g1, e1, c1, c2⟩
    · exact .inl e1
    · right
      rw [e1]
      rcases Sl.row b1 with e2 | ⟨g2, e2, d1, d2⟩
      · rw [e2]; simp
      · rw [e2]; intro e3; injection e3 with e3; have := h6 i j hij hj; omega
  · obtain ⟨a1, _, _, a2⟩ := hr i hi'
    rcases Sl.row a1 with e1 | ⟨g1, e1, c1, c2⟩
    · exact .inl e1
    · right
      rw [e1]
      unfold rowOf
      rw [if_neg (by omega)]
      intro e3
      have := a2 g1 e3.symm
      omega
end

/-- append of one row onto a slice of slices of the call's own, the row's slice just laid in a block of its own -/
theorem append_bs {P : Program} {ops : Array Oper} {rest : List Oper} {o : Oper} {a : Act} {Q : Exit → Act → World → Prop} {t e : TypeId} {bytes : Nat}
    (ht : P.underlying t = some (.slice e)) (hinfo : (P.info? e).map (fun i => (i.zero, i.size, i.bytes)) = some (some (.slice none 0 0), 1, bytes)) (hby : bytes ≤ 64)
    (w : World) (hgd : o.guard = none) {s : Operand} (x : Operand) (ho : o.op = .call { callee := .builtin .append, args := #[s, x], argTypes := #[t, t] })
    {base top : Nat} {v : Value} {xss : List (List Bool)} (hown : OwnBS w base top e v xss) {u : Value} {xs : List Bool} {lo hi : Nat} (hu : BoolS w lo hi u xs) (hlo : top ≤ lo) (hhi : hi ≤ w.heap.size) (hlh : lo ≤ hi) (hfar : ∀ g, v.ownBlock = some g → g < lo ∨ hi ≤ g)
    (te : TypeId) (hs : a.eval s = v) (hx : a.eval x = .slice (some ⟨w.heap.size, 0, none⟩) 1 1) (hlen : xss.length < 1099511627776)
    (h : ∀ v' w', OwnBS w' base hi e v' (xss ++ [xs]) → w.grownBy w' v.ownBlock → (v'.ownBlock = v.ownBlock ∨ v'.ownBlock = some (w.heap.size + 1)) → wpList P ops Q rest (a.put o.dst v') w') :
    wpList P ops Q (o :: rest) a (w.alloc (.cells #[u] te)) := by
  obtain ⟨vs, los, his, h1, h2, h3, h4, h5, h6⟩ := hown
  obtain ⟨A, c, rfl⟩ := (show ∃ A c, u = .slice A xs.length c from let ⟨A, c, e, _⟩ := hu; ⟨A, c, e⟩)
  refine append1 ht hinfo rfl hby w hgd x ho h2 _ te hs hx rfl (by omega) (by omega) fun v' w' ho' hg' hat' => h v' w' ?_ hg' hat'
  have hgs := hg'.size
  have hold : ∀ j, j < xss.length → ∃ u, vs[j]? = some u ∧ base ≤ los j ∧ his j ≤ top ∧ BoolS w' (los j) (his j) u (nthL xss j) ∧ ∀ g, v'.ownBlock = some g → g < los j ∨ his j ≤ g := fun j hj => by
    obtain ⟨u, a1, a2, a3, a4, a5⟩ := h5 j hj
    refine ⟨u, a1, a2, a3, a4.far hg' (by omega) a5, fun g hg => ?_⟩
    rcases hat' with e1 | e1
    · exact a5 g (by rw [← e1]; exact hg)
    · rw [e1] at hg; injection hg with hg; omega
  refine ⟨vs ++ [.slice A xs.length c], fun j => if j < xss.length then los j else lo, fun j => if j < xss.length then his j else hi, by simp [h1], ho', by omega, by omega, fun j hj => ?_, fun i j hij hj => ?_⟩
  · dsimp only
    by_cases e1 : j < xss.length
    · obtain ⟨u, a1, a2, a3, a4, a5⟩ := hold j e1
      rw [if_pos e1, if_pos e1, nthL_append_left e1]
      exact ⟨u, by rw [List.getElem?_append_left (by omega)]; exact a1, a2, by omega, a4, a5⟩
    · obtain rfl : j = xss.length := by simp at hj; omega
      rw [if_neg e1, if_neg e1, nthL_append_at]
      refine ⟨.slice A xs.length c, by rw [← h1]; simp, by omega, Nat.le_refl _, hu.far hg' hhi hfar, fun g hg => ?_⟩
      rcases hat' with e2 | e2
      · exact hfar g (by rw [← e2]; exact hg)
      · rw [e2] at hg; injection hg with hg; omega
  · dsimp only
    rw [if_pos (by simp at hj; omega)]
    by_cases e1 : j < xss.length
    · rw [if_pos e1]; exact h6 i j hij e1
    · rw [if_neg e1]
      obtain ⟨u, _, _, a3, _⟩ := h5 i (by simp at hj; omega)
      omega

theorem OwnBS.far {w w' : World} {base top : Nat} {e : TypeId} {v : Value} {xss : List (List Bool)} {row : Option Nat} (h : OwnBS w base top e v xss) (hg : w.grownBy w' row) (hr : ∀ g, row = some g → g < base) : OwnBS w' base top e v xss := by
  obtain ⟨vs, lo, hi, h1, h2, h3, h4, h5, h6⟩ := h
  refine ⟨vs, lo, hi, h1, h2.kept hg ?_, h3, Nat.le_trans h4 hg.size, fun j hj => ?_, h6⟩
  · cases hv : v.ownBlock with
    | none => exact .inl rfl
    | some g =>
      right
      intro e
      have := (h2.lt g hv).1
      have := hr g e.symm
      omega
  · obtain ⟨u, a1, a2, a3, a4, a5⟩ := h5 j hj
    exact ⟨u, a1, a2, a3, a4.far hg (by omega) (fun g e => .inl (by have := hr g e; omega)), a5⟩



/-- one boolean of a list of lists replaced -/
def setAtB (xss : List (List Bool)) (a i : Nat) (z : Bool) : List (List Bool) := xss.set a ((nthL xss a).set i z)
theorem setAtB_length (xss : List (List Bool)) (a i : Nat) (z : Bool) : (setAtB xss a i z).length = xss.length := by simp [setAtB]
theorem nthL_setAtB {xss : List (List Bool)} {a : Nat} (ha : a < xss.length) (i : Nat) (z : Bool) (j : Nat) : nthL (setAtB xss a i z) j = if j = a then (nthL xss a).set i z else nthL xss j := nthL_set ha _ _
theorem setAtB_row (xss : List (List Bool)) {a : Nat} (ha : a < xss.length) (i : Nat) (z : Bool) (j : Nat) : (nthL (setAtB xss a i z) j).length = (nthL xss j).length := by
  rw [nthL_setAtB ha]
  by_cases e : j = a
  · rw [if_pos e, List.length_set, e]
  · rw [if_neg e]
/-- a place of a slice of slices whose rows lie apart: its cells, and what a store leaves -/
theorem BSSx.place {w : World} {lo hi n c : Nat} {A : Option Addr} {xss : List (List Bool)} (h : BoolSSx w lo hi (.slice A n c) xss) (hh : hi ≤ w.heap.size) {a i : Nat} (ha : a < xss.length) (hi' : i < (nthL xss a).length) :
    ∃ b off b2 o2 c2, A = some ⟨b, off, none⟩ ∧ lo ≤ b ∧ b < hi ∧ lo ≤ b2 ∧ b2 < hi ∧ w.cell? ⟨b, off + a, none⟩ = some (.slice (some ⟨b2, o2, none⟩) (nthL xss a).length c2) ∧ (nthL xss a).length ≤ c2 ∧ c2 ≤ 9223372036854775807 ∧
      w.cell? ⟨b2, o2 + i, none⟩ = some (.bool (nthB (nthL xss a) i)) ∧ w.frozen? ⟨b2, o2 + i, none⟩ = false ∧ ∀ z, BoolSSx (w.setCell ⟨b2, o2 + i, none⟩ (.bool z)) lo hi (.slice A n c) (setAtB xss a i z) := by
  obtain ⟨vs, h1, h2, h3, h4⟩ := h
  have hrow := h2 a ha
  obtain ⟨A2, c2, e2, k1, k2⟩ := BoolS.dims hrow
  rw [e2] at hrow
  obtain ⟨b2, o2, rfl, l1, l2, x1, x2⟩ := BoolS.opened hrow hi'
  have htop := h1
  obtain ⟨A', c', e, m1, m2, m3⟩ := h1
  injection e with e3 e4 e5
  subst e3 e5
  obtain ⟨b, off, rfl, n1, n2, n3⟩ := m3 (by omega)
  have hva : w.cell? ⟨b, off + a, none⟩ = some (vs a) := (n3 a (by omega)).1
  rw [e2] at hva
  refine ⟨b, off, b2, o2, c2, rfl, n1, n2, l1, l2, hva, k1, k2, x1, x2, fun z => ?_⟩
  have hra : rowOf (nthL xss a).length (vs a) = some b2 := by rw [e2]; exact rowOf_some (by omega)
  have hg : w.grownBy (w.setCell ⟨b2, o2 + i, none⟩ (.bool z)) (some b2) := grown_set w ⟨b2, o2 + i, none⟩ _
  have hlen : ∀ j, (nthL (setAtB xss a i z) j).length = (nthL xss j).length := setAtB_row xss ha i z
  refine ⟨vs, ?_, fun j hj => ?_, fun j k hjk hk => ?_, fun j hj => ?_⟩
  · rw [setAtB_length]
    refine Sl.grown htop hg hh ?_
    have := h4 a ha
    rw [hra] at this
    rcases this with t | t
    · cases t
    · exact .inr fun e => t e.symm
  · rw [setAtB_length] at hj
    rw [nthL_setAtB ha]
    by_cases ej : j = a
    · subst ej
      rw [if_pos rfl, e2]
      exact hrow.set hi' z
    · rw [if_neg ej]
      refine Sl.grown (h2 j hj) hg hh ?_
      rw [← hra]
      by_cases hlt : j < a
      · exact h3 j a hlt ha
      · rcases h3 a j (by omega) hj with t | t
        · rw [hra] at t; cases t
        · exact .inr fun e => t e.symm
  · rw [setAtB_length] at hk
    rw [hlen j, hlen k]
    exact h3 j k hjk hk
  · rw [setAtB_length] at hj ⊢
    rw [hlen j]
    exact h4 j hj


theorem BSSx.far {w w' : World} {lo hi : Nat} {v : Value} {xss : List (List Bool)} {row : Option Nat} (h : BoolSSx w lo hi v xss) (hg : w.grownBy w' row) (hB : hi ≤ w.heap.size) (hr : ∀ g, row = some g → g < lo ∨ hi ≤ g) : BoolSSx w' lo hi v xss :=
  SSx.keep (fun h => BoolS.far h hg hB hr) h fun k h1 h2 => hg.block k (by omega) (fun e => by have := hr k e.symm; omega)
theorem BSSx.still {w w' : World} {lo hi : Nat} {v : Value} {xss : List (List Bool)} (h : BoolSSx w lo hi v xss) (hg : w.grownBy w' none) (hB : hi ≤ w.heap.size) : BoolSSx w' lo hi v xss := BSSx.far h hg hB (no_row _ _)
theorem BSSx.below {B : Nat} {w w' : World} {lo hi : Nat} {v : Value} {xss : List (List Bool)} (h : BoolSSx w lo hi v xss) (hb : Below B w w') (hB : hi ≤ B) : BoolSSx w' lo hi v xss := SSx.keep (fun h => BoolS.below h hb hB) h fun k _ hk => hb.block k (by omega)
theorem BSSx.turned {w w' : World} {l2 h2 lo hi : Nat} {v : Value} {xss : List (List Bool)} (h : BoolSSx w lo hi v xss) (hb : Turned l2 h2 w w') (hB : hi ≤ w.heap.size) (hd : hi ≤ l2 ∨ h2 ≤ lo) : BoolSSx w' lo hi v xss := SSx.keep (fun h => BoolS.turned h hb hB hd) h fun k h1 hk => hb.block k (by omega) (by omega)
theorem BSSx.mono {w : World} {lo hi lo' hi' : Nat} {v : Value} {xss : List (List Bool)} (h : BoolSSx w lo hi v xss) (h1 : lo' ≤ lo) (h2 : hi ≤ hi') : BoolSSx w lo' hi' v xss := SSx.mono (fun h => BoolS.mono h h1 h2) h h1 h2
theorem SSx.dims {α : Type} {R : World → Nat → Nat → Value → List α → Prop} {w : World} {lo hi : Nat} {v : Value} {xss : List (List α)} (h : SSx R w lo hi v xss) : ∃ A c, v = .slice A xss.length c ∧ xss.length ≤ c ∧ c ≤ 9223372036854775807 := SS.dims h.ss
theorem BSSx.dims {w : World} {lo hi : Nat} {v : Value} {xss : List (List Bool)} (h : BoolSSx w lo hi v xss) : ∃ A c, v = .slice A xss.length c ∧ xss.length ≤ c ∧ c ≤ 9223372036854775807 := SS.dims h.ss


/-- writes behind the rows -/
theorem OwnBS.farT {w w' : World} {base top : Nat} {e : TypeId} {v : Value} {xss : List (List Bool)} {row : Option Nat} (h : OwnBS w base top e v xss) (hg : w.grownBy w' row) (hr : ∀ g, row = some g → top ≤ g ∧ v.ownBlock ≠ some g) : OwnBS w' base top e v xss := by
  obtain ⟨vs, lo, hi, h1, h2, h3, h4, h5, h6⟩ := h
  refine ⟨vs, lo, hi, h1, h2.kept hg ?_, h3, Nat.le_trans h4 hg.size, fun j hj => ?_, h6⟩
  · cases hv : v.ownBlock with
    | none => exact .inl rfl
    | some g => right; intro e; exact (hr g e.symm).2 hv
  · obtain ⟨u, a1, a2, a3, a4, a5⟩ := h5 j hj
    exact ⟨u, a1, a2, a3, a4.far hg (by omega) (fun g e => .inr (by have := (hr g e).1; omega)), a5⟩
theorem OwnBS.still {w w' : World} {base top : Nat} {e : TypeId} {v : Value} {xss : List (List Bool)} (h : OwnBS w base top e v xss) (hg : w.grownBy w' none) : OwnBS w' base top e v xss := h.farT hg (fun g e => by cases e)

end Go.Proofs.Ytbfjhehhpgcelaa

/- Walk problems, in plain words: sets of labels as numbers, walks of a length, the first walk, counts of closed walks. -/
namespace Go.Proofs.Ytbfjhehhpgcelaa
open Go.ChangeShapes Go.WideShapes Go.ChangeAt Go.RowKit
set_option linter.unusedVariables false

def prs (arcs : List (List Int)) : List (Nat × Nat) := arcs.map fun x => ((nth x 0).toNat, (nth x 1).toNat)
theorem prs_length (arcs : List (List Int)) : (prs arcs).length = arcs.length := by simp [prs]
def mayL (ps : List (Nat × Nat)) (a b : Nat) : Bool := ps.any fun x => x.1 == a && x.2 == b
def may (arcs : List (List Int)) (a b : Nat) : Bool := mayL (prs arcs) a b
theorem prs_take (arcs : List (List Int)) {k : Nat} (h : k < arcs.length) : prs (arcs.take (k + 1)) = prs (arcs.take k) ++ [((nth (nthL arcs k) 0).toNat, (nth (nthL arcs k) 1).toNat)] := by
  unfold prs
  rw [List.take_succ_eq_append_getElem h, List.map_append, nthL_eq h]; rfl
theorem may_take (arcs : List (List Int)) {k : Nat} (h : k < arcs.length) (a b : Nat) : may (arcs.take (k + 1)) a b = (may (arcs.take k) a b || ((nth (nthL arcs k) 0).toNat == a && (nth (nthL arcs k) 1).toNat == b)) := by
  unfold may mayL
  rw [prs_take arcs h, List.any_append]; simp
theorem may_nil (a b : Nat) : may [] a b = false := rfl
theorem may_zero (arcs : List (List Int)) (a b : Nat) : may (arcs.take 0) a b = false := by simp [may_nil]
theorem may_full {arcs : List (List Int)} {k : Nat} (h : arcs.length ≤ k) : may (arcs.take k) = may arcs := by rw [List.take_of_length_le h]

/-- the set of the numbers below n with a property -/
def setOf : Nat → (Nat → Bool) → Nat
  | 0, _ => 0
  | n + 1, f => setOf n f + if f n then 2 ^ n else 0
theorem setOf_lt (n : Nat) (f : Nat → Bool) : setOf n f < 2 ^ n := by
  induction n with
  | zero => simp [setOf]
  | succ n ih => unfold setOf; rw [Nat.pow_succ]; split <;> omega
theorem setOf_test (n : Nat) (f : Nat → Bool) (i : Nat) : (setOf n f).testBit i = (decide (i < n) && f i) := by
  induction n with
  | zero => simp [setOf]
  | succ n ih =>
    unfold setOf
    by_cases hf : f n = true
    · rw [if_pos hf, Nat.add_comm]
      rcases Nat.lt_trichotomy i n with h | h | h
      · rw [Nat.testBit_two_pow_add_gt h, ih]
        simp [h, show i < n + 1 by omega]
      · subst h
        rw [Nat.testBit_two_pow_add_eq, ih]
        simp [hf]
      · have h1 : 2 ^ n + setOf n f < 2 ^ i := by
          have h2 := setOf_lt n f
          have h3 : 2 ^ (n + 1) ≤ 2 ^ i := Nat.pow_le_pow_right (by decide) h
          rw [Nat.pow_succ] at h3
          omega
        rw [Nat.testBit_lt_two_pow h1]
        simp [show ¬ i < n + 1 by omega]
    · rw [if_neg hf, Nat.add_zero, ih]
      rcases Nat.lt_trichotomy i n with h | h | h
      · simp [h, show i < n + 1 by omega]
      · subst h; simp [show f i = false by simpa using hf]
      · simp [show ¬ i < n by omega, show ¬ i < n + 1 by omega]
theorem setOf_congr {n : Nat} {f g : Nat → Bool} (h : ∀ i, i < n → f i = g i) : setOf n f = setOf n g := by
  induction n with
  | zero => rfl
  | succ n ih => unfold setOf; rw [ih fun i hi => h i (by omega), h n (by omega)]
theorem setOf_or (n : Nat) (f g : Nat → Bool) : setOf n f ||| setOf n g = setOf n (fun i => f i || g i) :=
  Nat.eq_of_testBit_eq fun i => by rw [Nat.testBit_or, setOf_test, setOf_test, setOf_test]; cases decide (i < n) <;> simp
theorem setOf_and (n : Nat) (f g : Nat → Bool) : setOf n f &&& setOf n g = setOf n (fun i => f i && g i) :=
  Nat.eq_of_testBit_eq fun i => by rw [Nat.testBit_and, setOf_test, setOf_test, setOf_test]; cases decide (i < n) <;> simp
theorem setOf_one {n a : Nat} (h : a < n) : 2 ^ a = setOf n (fun i => a == i) :=
  Nat.eq_of_testBit_eq fun i => by
    rw [Nat.testBit_two_pow, setOf_test]
    by_cases e : a = i
    · subst e; simp [h]
    · simp [e]
theorem setOf_none (n : Nat) : setOf n (fun _ => false) = 0 := by
  induction n with
  | zero => rfl
  | succ n ih => unfold setOf; rw [ih]; rfl
theorem setOf_bit {n i : Nat} (f : Nat → Bool) (h : i < n) : setOf n f / 2 ^ i % 2 = if f i then 1 else 0 := by
  have := setOf_test n f i
  rw [Nat.testBit_eq_decide_div_mod_eq] at this
  have h2 : setOf n f / 2 ^ i % 2 < 2 := Nat.mod_lt _ (by decide)
  cases hf : f i
  · simp [h, hf] at this; rw [if_neg (by simp)]; omega
  · simp [h, hf] at this; rw [if_pos rfl]; exact this
theorem setOf_end {n i : Nat} {f : Nat → Bool} (h : setOf n f / 2 ^ i = 0) {j : Nat} (h1 : i ≤ j) (h2 : j < n) : f j = false := by
  have h3 : setOf n f < 2 ^ i := (Nat.div_eq_zero_iff_lt (Nat.two_pow_pos i)).1 h
  have h4 : setOf n f < 2 ^ j := Nat.lt_of_lt_of_le h3 (Nat.pow_le_pow_right (by decide) h1)
  have h5 := Nat.testBit_lt_two_pow h4
  rw [setOf_test] at h5
  simpa [h2] using h5
theorem setOf_big (n : Nat) (f : Nat → Bool) : setOf n f / 2 ^ n = 0 := (Nat.div_eq_zero_iff_lt (Nat.two_pow_pos n)).2 (setOf_lt n f)
/-- the numbers below n with a property, in order -/
def ascN (n : Nat) (f : Nat → Bool) : List Nat := (List.range n).filter f
def ascI (n : Nat) (f : Nat → Bool) : List Int := (ascN n f).map fun (k : Nat) => (k : Int)
theorem ascN_succ (n : Nat) (f : Nat → Bool) : ascN (n + 1) f = ascN n f ++ if f n then [n] else [] := by
  unfold ascN; rw [List.range_succ, List.filter_append]
  cases h : f n <;> simp [h]
theorem ascI_succ (n : Nat) (f : Nat → Bool) : ascI (n + 1) f = ascI n f ++ if f n then [(n : Int)] else [] := by
  unfold ascI; rw [ascN_succ, List.map_append]; cases h : f n <;> simp
theorem ascN_len (n : Nat) (f : Nat → Bool) : (ascN n f).length ≤ n := by
  unfold ascN; exact Nat.le_trans (List.length_filter_le _ _) (by simp)
theorem ascI_len (n : Nat) (f : Nat → Bool) : (ascI n f).length ≤ n := by unfold ascI; simpa using ascN_len n f
theorem ascN_end {n i : Nat} {f : Nat → Bool} (h : ∀ j, i ≤ j → j < n → f j = false) (hi : i ≤ n) : ascN i f = ascN n f := by
  induction n with
  | zero => rw [show i = 0 by omega]
  | succ n ih =>
    by_cases e : i = n + 1
    · rw [e]
    · rw [ascN_succ, h n (by omega) (by omega), ih (fun j h1 h2 => h j h1 (by omega)) (by omega)]; simp
theorem ascI_end {n i : Nat} {f : Nat → Bool} (h : ∀ j, i ≤ j → j < n → f j = false) (hi : i ≤ n) : ascI i f = ascI n f := by unfold ascI; rw [ascN_end h hi]
theorem ascN_mem {n : Nat} {f : Nat → Bool} {x : Nat} : x ∈ ascN n f ↔ x < n ∧ f x = true := by unfold ascN; simp
theorem ascI_at {n : Nat} {f : Nat → Bool} {k : Nat} (h : k < (ascI n f).length) : ∃ x : Nat, nth (ascI n f) k = x ∧ x < n ∧ f x = true ∧ (ascN n f)[k]? = some x := by
  have h' : k < (ascN n f).length := by unfold ascI at h; simpa using h
  have hm := ascN_mem.1 (List.getElem_mem h')
  refine ⟨(ascN n f)[k], ?_, hm.1, hm.2, List.getElem?_eq_getElem h'⟩
  unfold ascI; rw [nth_eq (by simpa using h')]; simp
/-- is there one, among the first k numbers of a set, with a property -/
def anyK (n : Nat) (f : Nat → Bool) (k : Nat) (g : Nat → Bool) : Bool := ((ascN n f).take k).any g
theorem anyK_zero (n : Nat) (f g : Nat → Bool) : anyK n f 0 g = false := by simp [anyK]
theorem anyK_succ {n k x : Nat} {f g : Nat → Bool} (h : (ascN n f)[k]? = some x) : anyK n f (k + 1) g = (anyK n f k g || g x) := by
  unfold anyK
  rw [List.take_add_one, h]; simp [List.any_append]
theorem anyK_full {n k : Nat} {f g : Nat → Bool} (h : (ascI n f).length ≤ k) : anyK n f k g = (List.range n).any fun c => f c && g c := by
  unfold anyK
  rw [List.take_of_length_le (by unfold ascI at h; simpa using h)]
  unfold ascN
  rw [List.any_filter]

/-- a walk of k steps -/
def wk (n : Nat) (m : Nat → Nat → Bool) : Nat → Nat → Nat → Bool
  | 0, a, b => a == b
  | k + 1, a, b => (List.range n).any fun c => wk n m k a c && m c b
theorem any_iff {n : Nat} {p : Nat → Bool} : (List.range n).any p = true ↔ ∃ c, c < n ∧ p c = true := by simp
theorem wk_succ {n : Nat} {m : Nat → Nat → Bool} {k a b : Nat} : wk n m (k + 1) a b = true ↔ ∃ c, c < n ∧ wk n m k a c = true ∧ m c b = true := by
  rw [wk, any_iff]; simp
theorem wk_left {n : Nat} {m : Nat → Nat → Bool} (k : Nat) {a b : Nat} (ha : a < n) (hb : b < n) : wk n m (k + 1) a b = true ↔ ∃ c, c < n ∧ m a c = true ∧ wk n m k c b = true := by
  induction k generalizing b with
  | zero =>
    rw [wk_succ]
    constructor
    · rintro ⟨c, h1, h2, h3⟩
      have e : a = c := by simpa [wk] using h2
      subst e
      exact ⟨b, hb, h3, by simp [wk]⟩
    · rintro ⟨c, h1, h2, h3⟩
      have e : c = b := by simpa [wk] using h3
      subst e
      exact ⟨a, ha, by simp [wk], h2⟩
  | succ k ih =>
    rw [wk_succ]
    constructor
    · rintro ⟨c, h1, h2, h3⟩
      obtain ⟨d, d1, d2, d3⟩ := (ih h1).1 h2
      exact ⟨d, d1, d2, wk_succ.2 ⟨c, h1, d3, h3⟩⟩
    · rintro ⟨d, d1, d2, d3⟩
      obtain ⟨c, c1, c2, c3⟩ := wk_succ.1 d3
      exact ⟨c, c1, (ih c1).2 ⟨d, d1, d2, c2⟩, c3⟩
theorem wk_left' {n : Nat} {m : Nat → Nat → Bool} (k : Nat) {a b : Nat} (ha : a < n) (hb : b < n) : wk n m (k + 1) a b = (List.range n).any fun c => wk n m k c b && m a c := by
  rw [Bool.eq_iff_iff, wk_left k ha hb, any_iff]
  constructor
  · rintro ⟨c, h1, h2, h3⟩; exact ⟨c, h1, by rw [h2, h3]; rfl⟩
  · rintro ⟨c, h1, h2⟩; rw [Bool.and_eq_true] at h2; exact ⟨c, h1, h2.2, h2.1⟩
/-- the first number with a property -/
def fstC (n : Nat) (f : Nat → Bool) : Nat := (ascN n f).headD 0
theorem fstC_of {n : Nat} {f : Nat → Bool} (h : ∃ c, c < n ∧ f c = true) : fstC n f < n ∧ f (fstC n f) = true ∧ 0 < (ascI n f).length ∧ nth (ascI n f) 0 = (fstC n f : Nat) := by
  obtain ⟨c, h1, h2⟩ := h
  have hm : c ∈ ascN n f := ascN_mem.2 ⟨h1, h2⟩
  unfold fstC ascI
  cases he : ascN n f with
  | nil => rw [he] at hm; cases hm
  | cons x xs =>
    have := ascN_mem.1 (show x ∈ ascN n f by rw [he]; simp)
    exact ⟨this.1, this.2, by simp, by simp [nth]⟩
theorem fstC_is {n c : Nat} {f : Nat → Bool} (h1 : c < n) (h2 : f c = true) (h3 : ∀ j, j < c → f j = false) : fstC n f = c := by
  obtain ⟨h4, h5, _⟩ := fstC_of ⟨c, h1, h2⟩
  have hz : ascN c f = [] := by
    rw [List.eq_nil_iff_forall_not_mem]
    intro x hx
    obtain ⟨a1, a2⟩ := ascN_mem.1 hx
    rw [h3 x a1] at a2; cases a2
  have hs : ∀ m, c < m → (ascN m f).headD 0 = c := by
    intro m
    induction m with
    | zero => intro h; omega
    | succ m ih =>
      intro hm
      rw [ascN_succ]
      by_cases e : c = m
      · subst e; rw [hz, h2]; rfl
      · have := ih (by omega)
        have hne : ascN m f ≠ [] := by
          intro e2
          have : c ∈ ascN m f := ascN_mem.2 ⟨by omega, h2⟩
          rw [e2] at this; cases this
        cases he : ascN m f with
        | nil => exact absurd he hne
        | cons x xs => rw [he] at this; simpa using this
  exact hs n h1
/-- the first walk -/
def gw (n : Nat) (m : Nat → Nat → Bool) (b : Nat) : Nat → Nat → List Int
  | 0, a => [(a : Int)]
  | k + 1, a => (a : Int) :: gw n m b k (fstC n fun c => m a c && wk n m k c b)
theorem gw_len (n : Nat) (m : Nat → Nat → Bool) (b : Nat) : ∀ k a, (gw n m b k a).length = k + 1
  | 0, _ => rfl
  | k + 1, a => by unfold gw; rw [List.length_cons, gw_len]
theorem gw_zero (n : Nat) (m : Nat → Nat → Bool) (b k a : Nat) : nth (gw n m b k a) 0 = a := by cases k <;> simp [gw, nth]
theorem gw_step {n : Nat} {m : Nat → Nat → Bool} {b : Nat} (hb : b < n) : ∀ (k a : Nat), a < n → wk n m k a b = true → ∀ j, j ≤ k → ∃ x : Nat, nth (gw n m b k a) j = x ∧ x < n ∧ wk n m (k - j) x b = true ∧
    (j < k → nth (gw n m b k a) (j + 1) = (fstC n fun c => m x c && wk n m (k - 1 - j) c b : Nat) ∧ m x (fstC n fun c => m x c && wk n m (k - 1 - j) c b) = true)
  | 0, a, ha, hw, j, hj => ⟨a, by rw [show j = 0 by omega]; exact gw_zero _ _ _ _ _, ha, by rw [show j = 0 by omega]; exact hw, fun h => absurd h (by omega)⟩
  | k + 1, a, ha, hw, j, hj => by
    obtain ⟨c, c1, c2, c3⟩ := (wk_left k ha hb).1 hw
    obtain ⟨f1, f2, _, _⟩ := fstC_of (n := n) (f := fun c => m a c && wk n m k c b) ⟨c, c1, by rw [c2, c3]; rfl⟩
    rw [Bool.and_eq_true] at f2
    have ih := gw_step hb k _ f1 f2.2
    cases j with
    | zero =>
      refine ⟨a, gw_zero _ _ _ _ _, ha, hw, fun _ => ⟨?_, ?_⟩⟩
      · obtain ⟨x, hx, _⟩ := ih 0 (by omega)
        show nth ((a : Int) :: gw n m b k _) 1 = _
        rw [nth_cons_succ, gw_zero]
        simp
      · simpa using f2.1
    | succ j =>
      obtain ⟨x, x1, x2, x3, x4⟩ := ih j (by omega)
      refine ⟨x, ?_, x2, by rw [show k + 1 - (j + 1) = k - j by omega]; exact x3, fun h => ?_⟩
      · show nth ((a : Int) :: gw n m b k _) (j + 1) = _
        rw [nth_cons_succ]; exact x1
      · obtain ⟨y1, y2⟩ := x4 (by omega)
        rw [show k + 1 - 1 - (j + 1) = k - 1 - j by omega]
        refine ⟨?_, y2⟩
        show nth ((a : Int) :: gw n m b k _) (j + 1 + 1) = _
        rw [nth_cons_succ]; exact y1
theorem gw_last {n : Nat} {m : Nat → Nat → Bool} {b k a : Nat} (hb : b < n) (ha : a < n) (h : wk n m k a b = true) : nth (gw n m b k a) k = b := by
  obtain ⟨x, x1, x2, x3, _⟩ := gw_step hb k a ha h k (Nat.le_refl _)
  rw [Nat.sub_self] at x3
  have e : x = b := by simpa [wk] using x3
  rw [x1, e]
theorem gw_arc {n : Nat} {m : Nat → Nat → Bool} {b k a : Nat} (hb : b < n) (ha : a < n) (h : wk n m k a b = true) {j : Nat} (hj : j < k) : m (nth (gw n m b k a) j).toNat (nth (gw n m b k a) (j + 1)).toNat = true := by
  obtain ⟨x, x1, x2, x3, x4⟩ := gw_step hb k a ha h j (by omega)
  obtain ⟨y1, y2⟩ := x4 hj
  rw [x1, y1, Int.toNat_natCast, Int.toNat_natCast]; exact y2
theorem gw_in {n : Nat} {m : Nat → Nat → Bool} {b k a : Nat} (hb : b < n) (ha : a < n) (h : wk n m k a b = true) {j : Nat} (hj : j ≤ k) : ∃ x : Nat, nth (gw n m b k a) j = x ∧ x < n := by
  obtain ⟨x, x1, x2, _⟩ := gw_step hb k a ha h j hj
  exact ⟨x, x1, x2⟩

/-- counts, as long as they are not too great -/
def capC : Int := 1000000000001
def addC (c : List Int) (s : List Int) (x : Nat × Nat) : List Int := s.set x.2 (min (nth s x.2 + nth c x.1) capC)
def stepC (ps : List (Nat × Nat)) (c : List Int) (n : Nat) : List Int := ps.foldl (addC c) (List.replicate n 0)
def cntC (ps : List (Nat × Nat)) (n a : Nat) : Nat → List Int
  | 0 => (List.replicate n 0).set a 1
  | k + 1 => stepC ps (cntC ps n a k) n
def totC (ps : List (Nat × Nat)) (n k : Nat) : Nat → Int
  | 0 => 0
  | a + 1 => min (totC ps n k a + nth (cntC ps n a k) a) capC
def Cnt (n : Nat) (c : List Int) : Prop := c.length = n ∧ ∀ j, j < n → 0 ≤ nth c j ∧ nth c j ≤ capC
theorem addC_cnt {n : Nat} {c s : List Int} {x : Nat × Nat} (hc : Cnt n c) (hs : Cnt n s) (h1 : x.1 < n) (h2 : x.2 < n) : Cnt n (addC c s x) ∧ ∀ j, j < n → (0 < nth (addC c s x) j ↔ 0 < nth s j ∨ (x.2 = j ∧ 0 < nth c x.1)) := by
  obtain ⟨c1, c2⟩ := hc
  obtain ⟨s1, s2⟩ := hs
  have a1 := c2 x.1 h1
  have a2 := s2 x.2 h2
  have hcap : (0 : Int) < capC := by decide
  refine ⟨⟨by unfold addC; simp [s1], fun j hj => ?_⟩, fun j hj => ?_⟩
  · unfold addC
    rw [nth_set _ _ _ _ (by omega)]
    have := s2 j hj
    split <;> omega
  · unfold addC
    rw [nth_set _ _ _ _ (by omega)]
    have := s2 j hj
    by_cases e : j = x.2
    · subst e; rw [if_pos rfl]; constructor
      · intro h; by_cases h0 : 0 < nth s x.2
        · exact .inl h0
        · exact .inr ⟨rfl, by omega⟩
      · rintro (h | ⟨_, h⟩) <;> omega
    · rw [if_neg e]; constructor
      · intro h; exact .inl h
      · rintro (h | ⟨h, _⟩)
        · exact h
        · exact absurd h.symm e
theorem zero_cnt (n : Nat) : Cnt n (List.replicate n 0) := ⟨by simp, fun j hj => by rw [nth_replicate _ _ hj]; exact ⟨Int.le_refl _, by decide⟩⟩
theorem stepC_cnt {n : Nat} {c : List Int} (hc : Cnt n c) (ps : List (Nat × Nat)) (hp : ∀ x ∈ ps, x.1 < n ∧ x.2 < n) : Cnt n (stepC ps c n) ∧ ∀ j, j < n → (0 < nth (stepC ps c n) j ↔ ∃ a, a < n ∧ 0 < nth c a ∧ mayL ps a j = true) := by
  have key : ∀ (ps : List (Nat × Nat)), (∀ x ∈ ps, x.1 < n ∧ x.2 < n) → ∀ s, Cnt n s → Cnt n (ps.foldl (addC c) s) ∧ ∀ j, j < n → (0 < nth (ps.foldl (addC c) s) j ↔ 0 < nth s j ∨ ∃ a, a < n ∧ 0 < nth c a ∧ mayL ps a j = true) := by
    intro ps
    induction ps with
    | nil => intro _ s hs; exact ⟨hs, fun j hj => by simp [mayL]⟩
    | cons x ps ih =>
      intro hp s hs
      obtain ⟨h1, h2⟩ := hp x (by simp)
      obtain ⟨k1, k2⟩ := addC_cnt hc hs h1 h2
      obtain ⟨i1, i2⟩ := ih (fun y hy => hp y (by simp [hy])) _ k1
      refine ⟨i1, fun j hj => ?_⟩
      rw [List.foldl_cons, i2 j hj, k2 j hj]
      constructor
      · rintro ((h | ⟨e, h⟩) | ⟨a, a1, a2, a3⟩)
        · exact .inl h
        · exact .inr ⟨x.1, h1, h, by simp [mayL, e]⟩
        · exact .inr ⟨a, a1, a2, by unfold mayL at a3 ⊢; rw [List.any_cons, a3, Bool.or_true]⟩
      · rintro (h | ⟨a, a1, a2, a3⟩)
        · exact .inl (.inl h)
        · unfold mayL at a3
          rw [List.any_cons, Bool.or_eq_true, Bool.and_eq_true] at a3
          rcases a3 with ⟨e1, e2⟩ | h
          · have e1' : x.1 = a := by simpa using e1
            have e2' : x.2 = j := by simpa using e2
            exact .inl (.inr ⟨e2', by rw [e1']; exact a2⟩)
          · exact .inr ⟨a, a1, a2, h⟩
  obtain ⟨h1, h2⟩ := key ps hp _ (zero_cnt n)
  refine ⟨h1, fun j hj => ?_⟩
  unfold stepC
  rw [h2 j hj, nth_replicate _ _ hj]
  simp
theorem cntC_cnt {n a : Nat} (ps : List (Nat × Nat)) (hp : ∀ x ∈ ps, x.1 < n ∧ x.2 < n) (ha : a < n) : ∀ k, Cnt n (cntC ps n a k) ∧ ∀ j, j < n → (0 < nth (cntC ps n a k) j ↔ wk n (mayL ps) k a j = true)
  | 0 => by
    refine ⟨⟨by simp [cntC], fun j hj => ?_⟩, fun j hj => ?_⟩
    · unfold cntC; rw [nth_set _ _ _ _ (by simpa using ha)]
      split
      · exact ⟨by decide, by decide⟩
      · rw [nth_replicate _ _ hj]; exact ⟨Int.le_refl _, by decide⟩
    · unfold cntC wk; rw [nth_set _ _ _ _ (by simpa using ha)]
      by_cases e : j = a
      · subst e; simp
      · rw [if_neg e, nth_replicate _ _ hj]; simp; omega
  | k + 1 => by
    obtain ⟨h1, h2⟩ := cntC_cnt ps hp ha k
    obtain ⟨k1, k2⟩ := stepC_cnt h1 ps hp
    refine ⟨k1, fun j hj => ?_⟩
    show 0 < nth (stepC ps (cntC ps n a k) n) j ↔ _
    rw [k2 j hj, wk_succ]
    constructor
    · rintro ⟨c, c1, c2, c3⟩; exact ⟨c, c1, (h2 c c1).1 c2, c3⟩
    · rintro ⟨c, c1, c2, c3⟩; exact ⟨c, c1, (h2 c c1).2 c2, c3⟩
theorem totC_pos {n k : Nat} (ps : List (Nat × Nat)) (hp : ∀ x ∈ ps, x.1 < n ∧ x.2 < n) : ∀ a, a ≤ n → (0 ≤ totC ps n k a ∧ totC ps n k a ≤ capC) ∧ (0 < totC ps n k a ↔ ∃ c, c < a ∧ wk n (mayL ps) k c c = true)
  | 0, _ => ⟨⟨Int.le_refl _, show (0 : Int) ≤ 1000000000001 by decide⟩, by simp [totC]⟩
  | a + 1, ha => by
    obtain ⟨⟨h1, h2⟩, h3⟩ := totC_pos ps hp (k := k) a (by omega)
    obtain ⟨⟨_, c1⟩, c2⟩ := cntC_cnt ps hp (show a < n by omega) k
    have c1 := c1 a (by omega)
    have c2 := c2 a (by omega)
    have hcap : (0 : Int) < capC := by decide
    unfold totC
    refine ⟨by omega, ?_⟩
    constructor
    · intro h
      by_cases h0 : 0 < totC ps n k a
      · obtain ⟨c, d1, d2⟩ := h3.1 h0; exact ⟨c, by omega, d2⟩
      · exact ⟨a, by omega, c2.1 (by omega)⟩
    · rintro ⟨c, d1, d2⟩
      by_cases e : c = a
      · subst e; have := c2.2 d2; omega
      · have := h3.2 ⟨c, by omega, d2⟩; omega
theorem stepC_take (ps : List (Nat × Nat)) (c : List Int) (n : Nat) {j : Nat} {x : Nat × Nat} (h : ps[j]? = some x) : stepC (ps.take (j + 1)) c n = addC c (stepC (ps.take j) c n) x := by
  unfold stepC
  rw [List.take_add_one, h, List.foldl_append]; rfl

/-- a good walk problem -/
def arcOk (L : Int) (arcs : List (List Int)) (i : Nat) : Bool := decide ((nthL arcs i).length = 2) && ((nthL arcs i).all fun x => inB x 0 (L - 1)) && (decide (i = 0) || decide (cmpL (nthL arcs (i - 1)) (nthL arcs i) < 0))
def wkGood (L : Int) (arcs : List (List Int)) : Bool := inB L 1 12 && (List.range arcs.length).all (arcOk L arcs)
theorem good_arc {L : Int} {arcs : List (List Int)} {i : Nat} (h : wkGood L arcs = true) (hi : i < arcs.length) : (nthL arcs i).length = 2 ∧ ∃ a b : Nat, nthL arcs i = [(a : Int), (b : Int)] ∧ a < L.toNat ∧ b < L.toNat := by
  unfold wkGood at h
  rw [Bool.and_eq_true] at h
  have h2 := rangeAll_at h.2 hi
  unfold arcOk at h2
  rw [Bool.and_eq_true, Bool.and_eq_true] at h2
  have hl : (nthL arcs i).length = 2 := by simpa using h2.1.1
  refine ⟨hl, ?_⟩
  have h3 := all_nth.1 h2.1.2
  have b0 := inB_le (h3 0 (by omega))
  have b1 := inB_le (h3 1 (by omega))
  refine ⟨(nth (nthL arcs i) 0).toNat, (nth (nthL arcs i) 1).toNat, ?_, by omega, by omega⟩
  match hx : nthL arcs i, hl with
  | [x, y], _ =>
    rw [hx] at b0 b1
    simp [nth] at b0 b1 ⊢
    omega
theorem good_L {L : Int} {arcs : List (List Int)} (h : wkGood L arcs = true) : ∃ n : Nat, L = n ∧ 1 ≤ n ∧ n ≤ 12 := by
  unfold wkGood at h
  rw [Bool.and_eq_true] at h
  have := inB_le h.1
  exact ⟨L.toNat, by omega, by omega, by omega⟩
theorem good_prs {L : Int} {arcs : List (List Int)} (h : wkGood L arcs = true) : ∀ x ∈ prs arcs, x.1 < L.toNat ∧ x.2 < L.toNat := by
  intro x hx
  unfold prs at hx
  obtain ⟨r, hr, rfl⟩ := List.mem_map.1 hx
  obtain ⟨i, hi, rfl⟩ := List.getElem_of_mem hr
  obtain ⟨_, a, b, e, h1, h2⟩ := good_arc h hi
  rw [← nthL_eq hi, e]
  exact ⟨by simpa [nth] using h1, by simpa [nth] using h2⟩
theorem cmpL_range (a b : List Int) : cmpL a b = -1 ∨ cmpL a b = 0 ∨ cmpL a b = 1 := by
  unfold cmpL; split
  · exact .inl rfl
  · split
    · exact .inr (.inl rfl)
    · exact .inr (.inr rfl)
theorem prs_at {arcs : List (List Int)} {i : Nat} (hi : i < arcs.length) : (prs arcs)[i]? = some ((nth (nthL arcs i) 0).toNat, (nth (nthL arcs i) 1).toNat) := by
  unfold prs; rw [List.getElem?_map, List.getElem?_eq_getElem hi, nthL_eq hi]; rfl
end Go.Proofs.Ytbfjhehhpgcelaa

/- Contracts: equality of two slices of numbers, of two slices of such slices. -/
namespace Go.Proofs.Ytbfjhehhpgcelaa
open Go.ChangeShapes Go.WideShapes Go.ChangeAt Go.RowKit
set_option linter.unusedVariables false

set_option maxHeartbeats 1000000 in
set_option maxRecDepth 100000 in
theorem l1Same_any (v1 v2 : Value) (a b : List Int) (lo1 hi1 lo2 hi2 : Nat) (w : World) (h1 : IntS w lo1 hi1 v1 a) (h2 : IntS w lo2 hi2 v2 b) (hh1 : hi1 ≤ w.heap.size) (hh2 : hi2 ≤ w.heap.size) :
    Calls Try.prog 55 #[v1, v2] w fun e w' => e = .returned (.bool (decide (a = b))) ∧ Below w.heap.size w w' := by
  obtain ⟨A, c, rfl, hc1, hc2, hcell⟩ := h1.form
  obtain ⟨A2, c2, rfl, hd1, hd2, hcell2⟩ := h2.form
  have HC := Lib.hid hcell; have HC2 := Lib.hid hcell2
  clear hcell hcell2 h1 h2
  unfold maxLen at hc2 hd2
  obtain ⟨m, HM⟩ : ∃ m, Hid (a.length = m) := ⟨_, Lib.hid rfl⟩
  obtain ⟨m2, HM2⟩ : ∃ m, Hid (b.length = m) := ⟨_, Lib.hid rfl⟩
  rw [HM.out] at hc1 ⊢
  rw [HM2.out] at hd1 ⊢
  by_cases hl : m = m2
  case neg =>
    have hl' : ((m : Int) != (m2 : Int)) = true := by simp; omega
    have HN := Lib.hid (show decide (a = b) = false from decide_eq_false (fun e => hl (by rw [← HM.out, ← HM2.out, e])))
    clear hl
    go_enter Try.func55, Try.ntmps55
    go_wp2_with fail
    go_ret
    exact ⟨ret_bool HN.out.symm, Below.refl _ _⟩
  have hl' : ((m : Int) != (m2 : Int)) = false := by simp; omega
  have HL := Lib.hid hl; clear hl
  go_enter Try.func55, Try.ntmps55
  go_wp2_with fail
  go_loopw [13] (fun i wr => ∃ k : Nat, k ≤ m ∧ i = .int .i64 k ∧ Hid (Below w.heap.size w wr) ∧ Hid (∀ j, j < k → nth a j = nth b j)) (fun i _ => m - (intOf i).toNat)
  case atStart => exact ⟨0, Nat.zero_le _, rfl, Lib.hid (Below.refl _ _), Lib.hid fun j hj => absurd hj (by omega)⟩
  case round =>
    obtain ⟨k, hk, rfl, HB, HU⟩ := hrel
    by_cases hlt : k < m
    case neg =>
      obtain rfl : k = m := by omega
      go_wp2_with fail
      go_ret
      exact ⟨ret_bool (decide_eq_true (ext_nth (by rw [HM.out, HM2.out, HL.out]) (by rw [HM.out]; exact HU.out))).symm, HB.out⟩
    obtain ⟨x, o, hA, _, hx2, hcs⟩ := HC.out (by rw [HM.out]; omega)
    obtain ⟨y, o2, hA2, _, hy2, hcs2⟩ := HC2.out (by rw [HM2.out]; have := HL.out; omega)
    subst hA hA2
    have hk2 : k < m2 := by have := HL.out; omega
    have p1 := (HB.out.cell (p := ⟨x, o + k, none⟩) (by show x < _; omega)).trans (hcs k (by rw [HM.out]; exact hlt)).1
    have p2 := (HB.out.cell (p := ⟨y, o2 + k, none⟩) (by show y < _; omega)).trans (hcs2 k (by rw [HM2.out]; exact hk2)).1
    clear hcs hcs2
    obtain ⟨z1, HZ1⟩ : ∃ z, Hid (nth a k = z) := ⟨_, Lib.hid rfl⟩
    obtain ⟨z2, HZ2⟩ : ∃ z, Hid (nth b k = z) := ⟨_, Lib.hid rfl⟩
    rw [HZ1.out] at p1
    rw [HZ2.out] at p2
    have hkm : (k : Int) < (m : Int) := by omega
    have hkm2 : (k : Int) < (m2 : Int) := by omega
    by_cases hz : z1 = z2
    · have hz' : (z1 != z2) = false := by simp [hz]
      have HZ := Lib.hid hz; clear hz
      go_wp2_with fail
      go_quiet (fail)
      go_wp2_with fail
      go_roundw
      case rel =>
        refine ⟨k + 1, by omega, by go_num, Lib.hid (below_drewN HB.out _), Lib.hid fun j hj => ?_⟩
        by_cases e : j = k
        · rw [e, HZ1.out, HZ2.out, HZ.out]
        · exact HU.out j (by omega)
      case measure => simp [intOf]; omega
    · have hz' : (z1 != z2) = true := by simp [hz]
      have HN := Lib.hid (show decide (a = b) = false from decide_eq_false (fun e => hz (by rw [← HZ1.out, ← HZ2.out, e])))
      clear hz
      go_wp2_with fail
      go_quiet (fail)
      go_wp2_with fail
      go_ret
      exact ⟨ret_bool HN.out.symm, below_drewN HB.out _⟩

end Go.Proofs.Ytbfjhehhpgcelaa

/- Contracts: which walk problems are good (program and reference). -/
namespace Go.Proofs.Ytbfjhehhpgcelaa
open Go.ChangeShapes Go.WideShapes Go.ChangeAt Go.RowKit
set_option linter.unusedVariables false

theorem ret_intI {x y : Int} (h : x = y) : Ending.returned (.int .i64 x) = .returned (.int .i64 y) := by rw [h]
theorem below_succ {p : Nat → Prop} {k : Nat} (h : ∀ j, j < k → p j) (hk : p k) : ∀ j, j < k + 1 → p j := fun j hj => by
  rcases Nat.lt_or_ge j k with h2 | h2
  · exact h j h2
  · rw [show j = k by omega]; exact hk

set_option maxHeartbeats 1000000 in
set_option maxRecDepth 100000 in
theorem hasLabels_any (PL : Int) (v1 : Value) (P : List (List Int)) (lo1 hi1 : Nat) (v2 : Value) (Z : List Int) (lo2 hi2 : Nat) (w : World) (h1 : IntSS w lo1 hi1 v1 P) (hh1 : hi1 ≤ w.heap.size) (h2 : IntS w lo2 hi2 v2 Z) (hh2 : hi2 ≤ w.heap.size) (hL0 : -1000 ≤ PL) (hL1 : PL ≤ 1000) :
    Calls Try.prog 35 #[.agg #[.int .i64 PL, v1], v2] w fun e w' => e = .returned (.bool (Z.all fun x => inB x 0 (PL - 1))) ∧ Below w.heap.size w w' := by
  have F1 := Lib.hid h1
  obtain ⟨A1, c1, rfl, hc1, hd1⟩ := h1.dims
  clear h1
  have F2 := Lib.hid h2
  obtain ⟨A2, c2, rfl, hc2, hd2⟩ := h2.dims
  clear h2
  obtain ⟨WA, HWA⟩ : ∃ W, Hid (W = (w.alloc (.cells #[.int .i64 PL, .slice A1 P.length c1] 26))) := ⟨_, Lib.hid rfl⟩
  have hbA : Below w.heap.size w WA := by rw [HWA.out]; exact ((Below.refl _ _).alloc (Nat.le_refl _) _)
  have hsA : w.heap.size + 1 ≤ WA.heap.size := by rw [HWA.out]; simp; try omega
  have bx1 : BoxN WA (w.heap.size) #[.int .i64 PL, .slice A1 P.length c1] 26 := by rw [HWA.out]; exact (BoxN.new' _ _ _ (by simp))
  have G1 := Lib.hid (ISS.below F1.out hbA hh1); clear F1
  have G2 := Lib.hid (IntS.below F2.out hbA hh2); clear F2
  go_enter Try.func35, Try.ntmps35
  go_upto_region 1 with (fail)
  rw [← HWA.out]; clear HWA
  have kbx1_0 : WA.cell? ⟨w.heap.size, 0, none⟩ = some (.int .i64 PL) := bx1.cell 0 (by simp)
  have kbx1_1 : WA.cell? ⟨w.heap.size, 1, none⟩ = some (.slice A1 P.length c1) := bx1.cell 1 (by simp)
  have hw : IntKind.i64.wrap (PL - 1) = PL - 1 := IntWalk.i64_in _ (by omega)
  go_wp2_with fail
  refine (allWithin_any _ Z 0 (PL - 1) _ _ _ G2.out (by omega)).mono ?_
  rintro e W1 ⟨rfl, hb1⟩
  have hg1 := grown_below hb1; clear hb1
  have hs1 := hg1.size
  have HF1 := Lib.hid ((Turned.refl WA.heap.size WA.heap.size WA).still hg1)
  go_wp2_with fail
  go_ret
  exact ⟨rfl, (HF1.out.below_of hbA (by omega) (by omega))⟩

set_option maxHeartbeats 2000000 in
set_option maxRecDepth 100000 in
theorem IsWalkProblem_any (PL : Int) (v1 : Value) (P : List (List Int)) (lo1 hi1 : Nat) (w : World) (h1 : IntSS w lo1 hi1 v1 P) (hh1 : hi1 ≤ w.heap.size)  :
    Calls Try.prog 18 #[.agg #[.int .i64 PL, v1]] w fun e w' => e = .returned (.bool (wkGood PL P)) ∧ Below w.heap.size w w' := by
  have F1 := Lib.hid h1
  obtain ⟨A1, c1, rfl, hc1, hd1⟩ := h1.dims
  clear h1
  obtain ⟨WA, HWA⟩ : ∃ W, Hid (W = (w.alloc (.cells #[.int .i64 PL, .slice A1 P.length c1] 26))) := ⟨_, Lib.hid rfl⟩
  have hbA : Below w.heap.size w WA := by rw [HWA.out]; exact ((Below.refl _ _).alloc (Nat.le_refl _) _)
  have hsA : w.heap.size + 1 ≤ WA.heap.size := by rw [HWA.out]; simp; try omega
  have bx1 : BoxN WA (w.heap.size) #[.int .i64 PL, .slice A1 P.length c1] 26 := by rw [HWA.out]; exact (BoxN.new' _ _ _ (by simp))
  have G1 := Lib.hid (ISS.below F1.out hbA hh1); clear F1
  go_enter Try.func18, Try.ntmps18
  go_upto_region 1 with (fail)
  rw [← HWA.out]; clear HWA
  have kbx1_0 : WA.cell? ⟨w.heap.size, 0, none⟩ = some (.int .i64 PL) := bx1.cell 0 (by simp)
  have kbx1_1 : WA.cell? ⟨w.heap.size, 1, none⟩ = some (.slice A1 P.length c1) := bx1.cell 1 (by simp)
  go_wp2_with fail
  refine (within_any PL 1 12 _).mono ?_
  rintro e w' ⟨rfl, rfl⟩
  by_cases hL : inB PL 1 12 = true
  case neg =>
    have hL' : inB PL 1 12 = false := by simpa using hL
    rw [hL']
    go_wp2_with fail
    go_ret
    exact ⟨ret_bool (by unfold wkGood; rw [hL']; rfl), hbA⟩
  obtain ⟨l0, l1⟩ := inB_le hL
  have HL := Lib.hid hL
  rw [hL]
  clear hL
  go_wp2_with fail
  clear kbx1_0 kbx1_1
  go_loopw [12] (fun iv wr => ∃ (k : Nat), k ≤ P.length ∧ iv = .int .i64 k ∧ Hid (∀ j, j < k → arcOk PL P j = true) ∧ Hid (Turned WA.heap.size WA.heap.size WA wr)) (fun iv _ => P.length - (intOf iv).toNat)
  case atStart => exact ⟨0, Nat.zero_le _, rfl, Lib.hid (fun j hj => absurd hj (by omega)), Lib.hid (Turned.refl WA.heap.size WA.heap.size WA)⟩
  case round =>
    obtain ⟨k, hk, rfl, HG, HF1⟩ := hrel
    have hs1 := HF1.out.size
    have kbx1_0 : wr.cell? ⟨w.heap.size, 0, none⟩ = some (.int .i64 PL) := (HF1.out.boxN bx1 (by omega)).cell 0 (by simp)
    have kbx1_1 : wr.cell? ⟨w.heap.size, 1, none⟩ = some (.slice A1 P.length c1) := (HF1.out.boxN bx1 (by omega)).cell 1 (by simp)
    by_cases hlt : k < P.length
    case neg =>
      go_wp2_with fail
      go_ret
      exact ⟨ret_bool (by unfold wkGood; rw [HL.out, Bool.true_and]; exact (rangeAll_true fun j hj => HG.out j (by omega)).symm), (HF1.out.below_of hbA (by omega) (by omega))⟩
    obtain ⟨br, or, ur, rfl, _, hbr, zr, hur⟩ := SS.opened G1.out hlt
    replace zr := (HF1.out.cell (by omega) (by omega)).trans zr
    obtain ⟨Ar, cr, rfl, hcr, hdr⟩ := hur.dims
    have Ur := Lib.hid hur; clear hur
    by_cases hl2 : (nthL P k).length = 2
    case neg =>
      have hne : (((nthL P k).length : Int) != 2) = true := by simp; omega
      go_wp2_with fail
      go_ret
      exact ⟨ret_bool (by unfold wkGood; rw [HL.out, Bool.true_and]; exact (rangeAll_false hlt (by unfold arcOk; rw [decide_eq_false hl2]; rfl)).symm), (HF1.out.below_of hbA (by omega) (by omega))⟩
    have hne : (((nthL P k).length : Int) != 2) = false := by simp; omega
    have HL2 := Lib.hid hl2; clear hl2
    go_wp2_with fail
    clear kbx1_0 kbx1_1
    refine (hasLabels_any PL _ P _ _ _ (nthL P k) _ _ _ (ISS.turned G1.out HF1.out (by omega) (by omega)) (by omega) (IntS.turned Ur.out HF1.out (by omega) (by omega)) (by omega) (by omega) (by omega)).mono ?_
    rintro e W2 ⟨rfl, hb2⟩
    have hg2 := grown_below hb2; clear hb2
    have hs2 := hg2.size
    have HF2 := Lib.hid (HF1.out.still hg2); clear HF1
    by_cases ha : ((nthL P k).all fun x => inB x 0 (PL - 1)) = true
    case neg =>
      have ha' : ((nthL P k).all fun x => inB x 0 (PL - 1)) = false := by simpa using ha
      rw [ha']
      go_wp2_with fail
      go_ret
      exact ⟨ret_bool (by unfold wkGood; rw [HL.out, Bool.true_and]; exact (rangeAll_false hlt (by unfold arcOk; rw [ha', Bool.and_false]; rfl)).symm), (HF2.out.below_of hbA (by omega) (by omega))⟩
    rw [ha]
    have HA := Lib.hid ha; clear ha
    by_cases hk0 : k = 0
    case pos =>
      have hki : ¬ (0 : Int) < (k : Int) := by omega
      have HK0 := Lib.hid hk0; clear hk0
      go_wp2_with fail
      go_roundw
      case rel => exact ⟨k + 1, by omega, by go_num, Lib.hid (below_succ HG.out (by unfold arcOk; rw [decide_eq_true HL2.out, HA.out, decide_eq_true HK0.out]; rfl)), HF2⟩
      case measure => simp [intOf]; omega
    have hki : (0 : Int) < (k : Int) := by omega
    have hk1 : ((k : Int) - 1) = ((k - 1 : Nat) : Int) := by omega
    have kbx1_0 : W2.cell? ⟨w.heap.size, 0, none⟩ = some (.int .i64 PL) := (HF2.out.boxN bx1 (by omega)).cell 0 (by simp)
    have kbx1_1 : W2.cell? ⟨w.heap.size, 1, none⟩ = some (.slice (some ⟨br, or, none⟩) P.length c1) := (HF2.out.boxN bx1 (by omega)).cell 1 (by simp)
    obtain ⟨uq, hbq, zq, huq⟩ := SS.openedIn G1.out (by omega : k - 1 < P.length)
    replace zq := (HF2.out.cell (by omega) (by omega)).trans zq
    obtain ⟨Aq, cq, rfl, hcq, hdq⟩ := huq.dims
    have Uq := Lib.hid huq; clear huq
    go_wp2_with fail
    refine (compareL_any _ (nthL P (k - 1)) _ _ _ (nthL P k) _ _ _ (IntS.turned Uq.out HF2.out (by omega) (by omega)) (by omega) (IntS.turned Ur.out HF2.out (by omega) (by omega)) (by omega)).mono ?_
    rintro e w' ⟨rfl, rfl⟩
    have hcr := cmpL_range (nthL P (k - 1)) (nthL P k)
    obtain ⟨cv, HCV⟩ : ∃ x, Hid (cmpL (nthL P (k - 1)) (nthL P k) = x) := ⟨_, Lib.hid rfl⟩
    rw [HCV.out] at hcr
    rw [HCV.out]
    by_cases hcv : cv < 0
    case neg =>
      have hcge : (0 : Int) ≤ cv := by omega
      have HC0 := Lib.hid hcv; have HK0 := Lib.hid hk0; clear hcv hk0
      go_wp2_with fail
      go_ret
      exact ⟨ret_bool (by unfold wkGood; rw [HL.out, Bool.true_and]; exact (rangeAll_false hlt (by unfold arcOk; rw [HCV.out, decide_eq_false (show ¬ cv < 0 by have := HC0.out; omega), decide_eq_false HK0.out]; simp)).symm), (HF2.out.below_of hbA (by omega) (by omega))⟩
    have hcge : ¬ (0 : Int) ≤ cv := by omega
    have HC0 := Lib.hid hcv; clear hcv
    go_wp2_with fail
    clear kbx1_0 kbx1_1
    go_roundw
    case rel => exact ⟨k + 1, by omega, by go_num, Lib.hid (below_succ HG.out (by unfold arcOk; rw [decide_eq_true HL2.out, HA.out, HCV.out, decide_eq_true HC0.out, Bool.or_true]; rfl)), HF2⟩
    case measure => simp [intOf]; omega

set_option maxHeartbeats 1000000 in
set_option maxRecDepth 100000 in
theorem l1Sign_any (n : Int) (w : World)   :
    Calls Try.prog 54 #[.int .i64 n] w fun e w' => e = .returned (.int .i64 (cmpV n 0)) ∧ w = w' := by
  go_enter Try.func54, Try.ntmps54
  by_cases h1 : 0 < n
  case pos =>
    have hv : cmpV n 0 = 1 := by unfold cmpV; rw [if_neg (by omega), if_pos h1]
    rw [hv]
    go_wp2_with fail
    go_ret
    exact ⟨rfl, rfl⟩
  by_cases h2 : n < 0
  case pos =>
    have hv : cmpV n 0 = -1 := by unfold cmpV; rw [if_pos h2]
    rw [hv]
    go_wp2_with fail
    go_ret
    exact ⟨rfl, rfl⟩
  have hv : cmpV n 0 = 0 := by unfold cmpV; rw [if_neg (by omega), if_neg (by omega)]
  rw [hv]
  go_wp2_with fail
  go_ret
  exact ⟨rfl, rfl⟩

theorem cmpV_sub (a b : Int) : cmpV (a - b) 0 = cmpV a b := by
  unfold cmpV
  by_cases h1 : a < b
  · rw [if_pos (by omega), if_pos h1]
  · rw [if_neg (by omega), if_neg h1]
    by_cases h2 : b < a
    · rw [if_pos (by omega), if_pos h2]
    · rw [if_neg (by omega), if_neg h2]

set_option maxHeartbeats 2000000 in
set_option maxRecDepth 100000 in
theorem prOrder_any (v1 : Value) (X : List Int) (lo1 hi1 : Nat) (v2 : Value) (Y : List Int) (lo2 hi2 : Nat) (w : World) (h1 : IntS w lo1 hi1 v1 X) (hh1 : hi1 ≤ w.heap.size) (h2 : IntS w lo2 hi2 v2 Y) (hh2 : hi2 ≤ w.heap.size) (hl : X.length = Y.length) (hx : ∀ z ∈ X, -1000000 ≤ z ∧ z ≤ 1000000) (hy : ∀ z ∈ Y, -1000000 ≤ z ∧ z ≤ 1000000) :
    Calls Try.prog 47 #[v1, v2] w fun e w' => e = .returned (.int .i64 (cmpL X Y)) ∧ w = w' := by
  have HLL := Lib.hid hl; have HX := Lib.hid hx; have HY := Lib.hid hy; clear hl hx hy
  have F1 := Lib.hid h1
  obtain ⟨A1, c1, rfl, hc1, hd1⟩ := h1.dims
  clear h1
  have F2 := Lib.hid h2
  obtain ⟨A2, c2, rfl, hc2, hd2⟩ := h2.dims
  clear h2
  go_enter Try.func47, Try.ntmps47
  go_wp2_with fail
  go_loop [9] (fun iv => ∃ (k : Nat), k ≤ X.length ∧ iv = .int .i64 k ∧ Hid (X.take k = Y.take k)) (fun iv => X.length - (intOf iv).toNat)
  case atStart => exact ⟨0, Nat.zero_le _, rfl, Lib.hid rfl⟩
  case round =>
    obtain ⟨k, hk, rfl, HT⟩ := hrel
    by_cases hlt : k < X.length
    case neg =>
      go_wp2_with fail
      go_ret
      exact ⟨ret_intI (lt_same (k := k) (by omega) (by have := HLL.out; omega) HT.out).2.symm, rfl⟩
    have hlt2 : k < Y.length := by have := HLL.out; omega
    obtain ⟨ba, oa, rfl, _, hba', xa, _⟩ := F1.out.opened hlt
    obtain ⟨bb, ob, rfl, _, hbb', xb, _⟩ := F2.out.opened hlt2
    have hxa := HX.out _ (nth_mem hlt)
    have hyb := HY.out _ (nth_mem hlt2)
    obtain ⟨x, HXX⟩ : ∃ z, Hid (nth X k = z) := ⟨_, Lib.hid rfl⟩
    obtain ⟨y, HYY⟩ : ∃ z, Hid (nth Y k = z) := ⟨_, Lib.hid rfl⟩
    rw [HXX.out] at xa hxa
    rw [HYY.out] at xb hyb
    by_cases hxy : x = y
    case pos =>
      have hne : (x != y) = false := by simp [hxy]
      have HXY := Lib.hid hxy; clear hxy
      go_wp2_with fail
      go_round
      case rel => exact ⟨k + 1, by omega, by go_num, Lib.hid (take_same hlt hlt2 HT.out (by rw [HXX.out, HYY.out]; exact HXY.out))⟩
      case measure => simp [intOf]; omega
    have hne : (x != y) = true := by simp [hxy]
    have hw : IntKind.i64.wrap (x - y) = x - y := IntWalk.i64_in _ (by omega)
    have HXY := Lib.hid hxy; clear hxy
    go_wp2_with fail
    refine (l1Sign_any (x - y) _).mono ?_
    rintro e w' ⟨rfl, rfl⟩
    go_wp2_with fail
    go_ret
    exact ⟨ret_intI (by rw [cmpV_sub, (lt_diff hlt hlt2 HT.out (by rw [HXX.out, HYY.out]; exact HXY.out)).2, HXX.out, HYY.out]), rfl⟩

theorem all_small {zs : List Int} {L : Int} (hL : L ≤ 1000000) (h : (zs.all fun x => inB x 0 (L - 1)) = true) : ∀ z ∈ zs, -1000000 ≤ z ∧ z ≤ 1000000 := by
  intro z hz
  have h2 := List.all_eq_true.1 h z hz
  have := inB_le h2
  omega
theorem arcOk_parts {L : Int} {arcs : List (List Int)} {i : Nat} (h : arcOk L arcs i = true) : (nthL arcs i).length = 2 ∧ ((nthL arcs i).all fun x => inB x 0 (L - 1)) = true := by
  unfold arcOk at h
  rw [Bool.and_eq_true, Bool.and_eq_true] at h
  exact ⟨by simpa using h.1.1, h.1.2⟩

set_option maxHeartbeats 2000000 in
set_option maxRecDepth 100000 in
theorem waArcs_any (v1 : Value) (P : List (List Int)) (lo1 hi1 : Nat) (PL : Int) (w : World) (h1 : IntSS w lo1 hi1 v1 P) (hh1 : hi1 ≤ w.heap.size) (l0 : 1 ≤ PL) (l1 : PL ≤ 12) :
    Calls Try.prog 40 #[v1, .int .i64 PL] w fun e w' => e = .returned (.bool ((List.range P.length).all (arcOk PL P))) ∧ w = w' := by
  have F1 := Lib.hid h1
  obtain ⟨A1, c1, rfl, hc1, hd1⟩ := h1.dims
  clear h1
  go_enter Try.func40, Try.ntmps40
  have hwl : IntKind.i64.wrap (PL - 1) = PL - 1 := IntWalk.i64_in _ (by omega)
  go_wp2_with fail
  go_loop [9] (fun iv => ∃ (k : Nat), k ≤ P.length ∧ iv = .int .i64 k ∧ Hid (∀ j, j < k → arcOk PL P j = true)) (fun iv => P.length - (intOf iv).toNat)
  case atStart => exact ⟨0, Nat.zero_le _, rfl, Lib.hid (fun j hj => absurd hj (by omega))⟩
  case round =>
    obtain ⟨k, hk, rfl, HG⟩ := hrel
    by_cases hlt : k < P.length
    case neg =>
      go_wp2_with fail
      go_ret
      exact ⟨ret_bool (rangeAll_true fun j hj => HG.out j (by omega)).symm, rfl⟩
    obtain ⟨br, or, ur, rfl, _, hbr, zr, hur⟩ := SS.opened F1.out hlt
    obtain ⟨Ar, cr, rfl, hcr, hdr⟩ := hur.dims
    have Ur := Lib.hid hur; clear hur
    by_cases hl2 : (nthL P k).length = 2
    case neg =>
      have hne : (((nthL P k).length : Int) != 2) = true := by simp; omega
      go_wp2_with fail
      go_ret
      exact ⟨ret_bool (rangeAll_false hlt (by unfold arcOk; rw [decide_eq_false hl2]; rfl)).symm, rfl⟩
    have hne : (((nthL P k).length : Int) != 2) = false := by simp; omega
    have HL2 := Lib.hid hl2; clear hl2
    go_wp2_with fail
    refine (l1All_any _ (nthL P k) 0 (PL - 1) _ _ _ Ur.out).mono ?_
    rintro e w' ⟨rfl, rfl⟩
    by_cases ha : ((nthL P k).all fun x => inB x 0 (PL - 1)) = true
    case neg =>
      have ha' : ((nthL P k).all fun x => inB x 0 (PL - 1)) = false := by simpa using ha
      rw [ha']
      go_wp2_with fail
      go_ret
      exact ⟨ret_bool (rangeAll_false hlt (by unfold arcOk; rw [ha', Bool.and_false]; rfl)).symm, rfl⟩
    rw [ha]
    have HA := Lib.hid ha; clear ha
    by_cases hk0 : k = 0
    case pos =>
      have hki : ¬ (0 : Int) < (k : Int) := by omega
      have HK0 := Lib.hid hk0; clear hk0
      go_wp2_with fail
      go_round
      case rel => exact ⟨k + 1, by omega, by go_num, Lib.hid (below_succ HG.out (by unfold arcOk; rw [decide_eq_true HL2.out, HA.out, decide_eq_true HK0.out]; rfl))⟩
      case measure => simp [intOf]; omega
    have hki : (0 : Int) < (k : Int) := by omega
    have hk1 : ((k : Int) - 1) = ((k - 1 : Nat) : Int) := by omega
    obtain ⟨p2, pa⟩ := arcOk_parts (HG.out (k - 1) (by omega))
    have P2 := Lib.hid p2; have PA := Lib.hid pa; clear p2 pa
    obtain ⟨uq, hbq, zq, huq⟩ := SS.openedIn F1.out (by omega : k - 1 < P.length)
    obtain ⟨Aq, cq, rfl, hcq, hdq⟩ := huq.dims
    have Uq := Lib.hid huq; clear huq
    go_wp2_with fail
    refine (prOrder_any _ (nthL P (k - 1)) _ _ _ (nthL P k) _ _ _ Uq.out (by omega) Ur.out (by omega) (by rw [P2.out, HL2.out]) (all_small (by omega) PA.out) (all_small (by omega) HA.out)).mono ?_
    rintro e w' ⟨rfl, rfl⟩
    have hcr := cmpL_range (nthL P (k - 1)) (nthL P k)
    obtain ⟨cv, HCV⟩ : ∃ x, Hid (cmpL (nthL P (k - 1)) (nthL P k) = x) := ⟨_, Lib.hid rfl⟩
    rw [HCV.out] at hcr
    rw [HCV.out]
    by_cases hcv : cv < 0
    case neg =>
      have hcge : (0 : Int) ≤ cv := by omega
      have HC0 := Lib.hid hcv; have HK0 := Lib.hid hk0; clear hcv hk0
      go_wp2_with fail
      go_ret
      exact ⟨ret_bool (rangeAll_false hlt (by unfold arcOk; rw [HCV.out, decide_eq_false (show ¬ cv < 0 by have := HC0.out; omega), decide_eq_false HK0.out]; simp)).symm, rfl⟩
    have hcge : ¬ (0 : Int) ≤ cv := by omega
    have HC0 := Lib.hid hcv; clear hcv
    go_wp2_with fail
    go_round
    case rel => exact ⟨k + 1, by omega, by go_num, Lib.hid (below_succ HG.out (by unfold arcOk; rw [decide_eq_true HL2.out, HA.out, HCV.out, decide_eq_true HC0.out, Bool.or_true]; rfl))⟩
    case measure => simp [intOf]; omega

set_option maxHeartbeats 2000000 in
set_option maxRecDepth 100000 in
theorem waGood_any (PL : Int) (v1 : Value) (P : List (List Int)) (lo1 hi1 : Nat) (w : World) (h1 : IntSS w lo1 hi1 v1 P) (hh1 : hi1 ≤ w.heap.size)  :
    Calls Try.prog 23 #[.agg #[.int .i64 PL, v1]] w fun e w' => e = .returned (.bool (wkGood PL P)) ∧ Below w.heap.size w w' := by
  have F1 := Lib.hid h1
  obtain ⟨A1, c1, rfl, hc1, hd1⟩ := h1.dims
  clear h1
  obtain ⟨WA, HWA⟩ : ∃ W, Hid (W = (w.alloc (.cells #[.int .i64 PL, .slice A1 P.length c1] 26))) := ⟨_, Lib.hid rfl⟩
  have hbA : Below w.heap.size w WA := by rw [HWA.out]; exact ((Below.refl _ _).alloc (Nat.le_refl _) _)
  have hsA : w.heap.size + 1 ≤ WA.heap.size := by rw [HWA.out]; simp; try omega
  have bx1 : BoxN WA (w.heap.size) #[.int .i64 PL, .slice A1 P.length c1] 26 := by rw [HWA.out]; exact (BoxN.new' _ _ _ (by simp))
  have G1 := Lib.hid (ISS.below F1.out hbA hh1); clear F1
  go_enter Try.func23, Try.ntmps23
  go_upto_region 1 with (fail)
  rw [← HWA.out]; clear HWA
  have kbx1_0 : WA.cell? ⟨w.heap.size, 0, none⟩ = some (.int .i64 PL) := bx1.cell 0 (by simp)
  have kbx1_1 : WA.cell? ⟨w.heap.size, 1, none⟩ = some (.slice A1 P.length c1) := bx1.cell 1 (by simp)
  go_wp2_with fail
  refine (l1In_any PL 1 12 _).mono ?_
  rintro e w' ⟨rfl, rfl⟩
  by_cases hL : inB PL 1 12 = true
  case neg =>
    have hL' : inB PL 1 12 = false := by simpa using hL
    rw [hL']
    go_wp2_with fail
    go_ret
    exact ⟨ret_bool (by unfold wkGood; rw [hL']; rfl), hbA⟩
  obtain ⟨l0, l1⟩ := inB_le hL
  have HL := Lib.hid hL
  rw [hL]
  clear hL
  go_wp2_with fail
  refine (waArcs_any _ P _ _ PL _ G1.out (by omega) l0 l1).mono ?_
  rintro e w' ⟨rfl, rfl⟩
  go_wp2_with fail
  go_ret
  exact ⟨ret_bool (by unfold wkGood; rw [HL.out, Bool.true_and]), hbA⟩

end Go.Proofs.Ytbfjhehhpgcelaa
