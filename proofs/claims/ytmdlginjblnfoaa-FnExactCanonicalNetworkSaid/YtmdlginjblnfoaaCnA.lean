/-
  Several texts in one: RnM, Stp, TokP, TrP, TrS, TokM, OwnES, OwnE, PartM, Rn1. No condition on any program.
-/
import Derived.Test.YtmdlginjblnfoaaQuadP
import Derived.Test.YtmdlginjblnfoaaFrame
import Derived.Test.YtmdlginjblnfoaaReg
import Derived.Test.YtmdlginjblnfoaaSS
import Derived.Test.YtmdlginjblnfoaaOpen
import Derived.Test.YtmdlginjblnfoaaOwnSS
import Derived.Maps.OwnSet
import Derived.WideKeyEntry
import Derived.DeepKeys5
import Derived.Test.YtmdlginjblnfoaaIte
import Derived.Test.YtmdlginjblnfoaaGood
import Derived.Test.YtmdlginjblnfoaaEdge2

/- A network that a call is writing: its top row at one block, its rows in others, its two rows of numbers apart; plain: what renumbering leaves. No condition on any program. -/
namespace Go.Proofs.Ytmdlginjblnfoaa
open Go.ChangeShapes Go.WideShapes Go.ChangeAt Go.RowKit
set_option linter.unusedVariables false

/-- the ends of a row, each node with another number -/
def mapEnds (p : List Int) (l : List (Int × Int)) : List (Int × Int) := l.map fun e => (nth p e.1.toNat, e.2)
/-- the first k nodes renumbered, into a copy -/
def renTo (N : NetD) (p : List Int) : Nat → NetD
  | 0 => N
  | k + 1 => ⟨(renTo N p k).ends.set (nth p k).toNat (mapEnds p (nthL N.ends k)), if 0 < N.ids.length then (renTo N p k).ids.set (nth p k).toNat (nth N.ids k) else (renTo N p k).ids, (renTo N p k).inputs.set (nth p k).toNat (nth N.inputs k)⟩
def renN (N : NetD) (p : List Int) : NetD := renTo N p N.ends.length
theorem renTo_len (N : NetD) (p : List Int) : ∀ k, (renTo N p k).ends.length = N.ends.length ∧ (renTo N p k).ids.length = N.ids.length ∧ (renTo N p k).inputs.length = N.inputs.length
  | 0 => ⟨rfl, rfl, rfl⟩
  | k + 1 => by
    obtain ⟨h1, h2, h3⟩ := renTo_len N p k
    refine ⟨?_, ?_, ?_⟩
    · show (List.set _ _ _).length = _; rw [List.length_set, h1]
    · show (if 0 < N.ids.length then _ else _ : List Int).length = _
      split
      · rw [List.length_set, h2]
      · exact h2
    · show (List.set _ _ _).length = _; rw [List.length_set, h3]
theorem mapEnds_len (p : List Int) (l : List (Int × Int)) : (mapEnds p l).length = l.length := by simp [mapEnds]

/-- rows of ends apart from each other, in [lo, hi) and not at g; the top row at block g -/
def EndSSz (w : World) (g lo hi : Nat) (v : Value) (xss : List (List (Int × Int))) : Prop :=
  ∃ vs : Nat → Value, Sl w g (g + 1) 1 v xss.length vs ∧ (∀ i, i < xss.length → EndS w lo hi (vs i) (nthL xss i) ∧ (rowOf (nthL xss i).length (vs i) = none ∨ rowOf (nthL xss i).length (vs i) ≠ some g)) ∧
    ∀ i j, i < j → j < xss.length → rowOf (nthL xss i).length (vs i) = none ∨ rowOf (nthL xss i).length (vs i) ≠ rowOf (nthL xss j).length (vs j)
/-- out is being written: its top row lies at block g, ids in [d1, d2), inputs in [d3, i2), rows from i2 on and not at g -/
structure RN (w : World) (base d1 d2 d3 i2 rt g : Nat) (vE vD vI : Value) (N : NetD) : Prop where
  o1 : base ≤ d1
  o2 : d1 ≤ d2
  o3 : d2 ≤ d3
  o5 : d3 ≤ i2
  o4 : i2 ≤ rt
  o6 : rt ≤ w.heap.size
  g1 : base ≤ g
  g2 : g < rt
  g3 : g < d1 ∨ d2 ≤ g
  g4 : g < d3 ∨ i2 ≤ g
  ids : IntS w d1 d2 vD N.ids
  ins : IntS w d3 i2 vI N.inputs
  top : ∃ off c, vE = .slice (some ⟨g, off, none⟩) N.ends.length c
  rows : EndSSz w g i2 rt vE N.ends
theorem Sl.keepHi {w : World} {g n c : Nat} {f : Nat → Value} {hi : Nat} (h : Sl w g hi 1 (.slice (some ⟨g, 0, none⟩) n c) n f) : Sl w g (g + 1) 1 (.slice (some ⟨g, 0, none⟩) n c) n f := by
  obtain ⟨A, c', e, h1, h2, h3⟩ := h
  injection e with e1 _ e3
  subst e1 e3
  refine ⟨_, _, rfl, h1, h2, fun hn => ?_⟩
  obtain ⟨b, off, e4, h4, h5, h6⟩ := h3 hn
  injection e4 with e4
  injection e4 with e5 e6
  subst e5 e6
  exact ⟨_, _, rfl, h4, by omega, h6⟩
section
variable {w w' : World} {base d1 d2 d3 i2 rt g : Nat} {vE vD vI : Value} {N : NetD}
/-- writes elsewhere -/
theorem RN.far {row : Option Nat} (h : RN w base d1 d2 d3 i2 rt g vE vD vI N) (hg : w.grownBy w' row) (hr : ∀ k, row = some k → k < base ∨ w.heap.size ≤ k) : RN w' base d1 d2 d3 i2 rt g vE vD vI N := by
  have hs := hg.size
  have a1 := h.o1; have a2 := h.o2; have a3 := h.o3; have a8 := h.o5; have a4 := h.o4; have a0 := h.o6; have a5 := h.g1; have a6 := h.g2
  obtain ⟨vs, h1, h2, h3⟩ := h.rows
  refine ⟨a1, a2, a3, a8, a4, by omega, a5, a6, h.g3, h.g4, h.ids.far hg (by omega) (fun k e => by have := hr k e; omega), h.ins.far hg (by omega) (fun k e => by have := hr k e; omega), h.top, vs, ?_, fun i hi => ?_, h3⟩
  · exact Sl.keep h1 fun k k1 k2 => hg.block k (by omega) (fun e => by have := hr k e.symm; omega)
  · obtain ⟨e1, e2⟩ := h2 i hi
    exact ⟨e1.far hg (by omega) (fun k e => by have := hr k e; omega), e2⟩
theorem RN.still (h : RN w base d1 d2 d3 i2 rt g vE vD vI N) (hg : w.grownBy w' none) : RN w' base d1 d2 d3 i2 rt g vE vD vI N := h.far hg (fun k e => by cases e)
theorem RN.below (h : RN w base d1 d2 d3 i2 rt g vE vD vI N) (hb : Below w.heap.size w w') : RN w' base d1 d2 d3 i2 rt g vE vD vI N := h.still ⟨hb.os, hb.tape, hb.output, hb.size, fun k hk _ => hb.block k hk⟩
theorem RN.belowB {B : Nat} (h : RN w base d1 d2 d3 i2 rt g vE vD vI N) (hb : Below B w w') (hB : rt ≤ B) : RN w' base d1 d2 d3 i2 rt g vE vD vI N := by
  have hs := hb.size
  have a1 := h.o1; have a2 := h.o2; have a3 := h.o3; have a8 := h.o5; have a4 := h.o4; have a0 := h.o6; have a5 := h.g1; have a6 := h.g2
  obtain ⟨vs, h1, h2, h3⟩ := h.rows
  refine ⟨a1, a2, a3, a8, a4, by omega, a5, a6, h.g3, h.g4, h.ids.below hb (by omega), h.ins.below hb (by omega), h.top, vs, Sl.below h1 hb (by omega), fun i hi => ?_, h3⟩
  obtain ⟨e1, e2⟩ := h2 i hi
  exact ⟨e1.below hb hB, e2⟩
theorem RN.turned {l2 h2 : Nat} (h : RN w base d1 d2 d3 i2 rt g vE vD vI N) (hb : Turned l2 h2 w w') (hd : rt ≤ l2 ∨ h2 ≤ base) : RN w' base d1 d2 d3 i2 rt g vE vD vI N := by
  have hs := hb.size
  have a1 := h.o1; have a2 := h.o2; have a3 := h.o3; have a8 := h.o5; have a4 := h.o4; have a0 := h.o6; have a5 := h.g1; have a6 := h.g2
  obtain ⟨vs, h1, h2, h3⟩ := h.rows
  refine ⟨a1, a2, a3, a8, a4, by omega, a5, a6, h.g3, h.g4, h.ids.turned hb (by omega) (by omega), h.ins.turned hb (by omega) (by omega), h.top, vs, Sl.turned h1 hb (by omega) (by omega), fun i hi => ?_, h3⟩
  obtain ⟨e1, e2⟩ := h2 i hi
  exact ⟨e1.turned hb (by omega) (by omega), e2⟩
theorem RN.up {rt' : Nat} (h : RN w base d1 d2 d3 i2 rt g vE vD vI N) (h1 : rt ≤ rt') (h2 : rt' ≤ w.heap.size) : RN w base d1 d2 d3 i2 rt' g vE vD vI N := by
  obtain ⟨vs, k1, k2, k3⟩ := h.rows
  refine ⟨h.o1, h.o2, h.o3, h.o5, Nat.le_trans h.o4 h1, h2, h.g1, Nat.lt_of_lt_of_le h.g2 h1, h.g3, h.g4, h.ids, h.ins, h.top, vs, k1, fun i hi => ?_, k3⟩
  obtain ⟨e1, e2⟩ := k2 i hi
  exact ⟨e1.mono (Nat.le_refl _) h1, e2⟩
/-- what it reads as -/
theorem RN.netZ (h : RN w base d1 d2 d3 i2 rt g vE vD vI N) : Net w base rt (.agg #[vE, vD, vI]) N := by
  have a1 := h.o1; have a2 := h.o2; have a3 := h.o3; have a8 := h.o5; have a4 := h.o4; have a5 := h.g1; have a6 := h.g2
  obtain ⟨vs, h1, h2, _⟩ := h.rows
  exact ⟨vE, vD, vI, rfl, ⟨vs, h1.mono a5 (by omega), fun i hi => (h2 i hi).1.mono (by omega) (Nat.le_refl _)⟩, h.ids.mono (by omega) (by omega), h.ins.mono (by omega) (by omega)⟩
theorem RN.net (h : RN w base d1 d2 d3 i2 rt g vE vD vI N) : Net w base w.heap.size (.agg #[vE, vD, vI]) N := h.netZ.mono (Nat.le_refl _) h.o6
/-- one row of ends put in the place of another -/
theorem RN.setE {off n c : Nat} (h : RN w base d1 d2 d3 i2 rt g (.slice (some ⟨g, off, none⟩) n c) vD vI N) {a : Nat} (ha : a < N.ends.length) {u : Value} {xs : List (Int × Int)} (hu : EndS w rt w.heap.size u xs) (hne : rowOf xs.length u = none ∨ rowOf xs.length u ≠ some g) :
    RN (w.setCell ⟨g, off + a, none⟩ u) base d1 d2 d3 i2 (w.setCell ⟨g, off + a, none⟩ u).heap.size g (.slice (some ⟨g, off, none⟩) n c) vD vI ⟨N.ends.set a xs, N.ids, N.inputs⟩ := by
  have a1 := h.o1; have a2 := h.o2; have a3 := h.o3; have a8 := h.o5; have a4 := h.o4; have a0 := h.o6; have a5 := h.g1; have a6 := h.g2; have a7 := h.g3; have a9 := h.g4
  have hg : w.grownBy (w.setCell ⟨g, off + a, none⟩ u) (some g) := grown_set w ⟨g, off + a, none⟩ _
  have hs := hg.size
  have hn : n = N.ends.length := by obtain ⟨o2, c2, e⟩ := h.top; injection e
  subst hn
  obtain ⟨vs, h1, h2, h3⟩ := h.rows
  have hset : ∀ i, nthL (N.ends.set a xs) i = if i = a then xs else nthL N.ends i := fun i => by
    unfold nthL
    simp only [List.getD_eq_getElem?_getD, List.getElem?_set]
    by_cases e : a = i
    · subst e; simp [ha]
    · rw [if_neg e, if_neg (fun h => e h.symm)]
  have hap : ∀ i, i < N.ends.length → (rowOf (nthL N.ends i).length (vs i) = none ∨ rowOf (nthL N.ends i).length (vs i) ≠ rowOf xs.length u) ∧ (rowOf xs.length u = none ∨ rowOf xs.length u ≠ rowOf (nthL N.ends i).length (vs i)) := fun i hi => by
    rcases Sl.row (h2 i hi).1 with e | ⟨b, e, _, hb⟩
    · rcases Sl.row hu with e2 | ⟨b2, e2, _, _⟩
      · exact ⟨.inl e, .inl e2⟩
      · exact ⟨.inl e, .inr (by rw [e, e2]; simp)⟩
    · rcases Sl.row hu with e2 | ⟨b2, e2, hb2, _⟩
      · exact ⟨.inr (by rw [e, e2]; simp), .inl e2⟩
      · exact ⟨.inr (by rw [e, e2]; intro e3; injection e3; omega), .inr (by rw [e, e2]; intro e3; injection e3; omega)⟩
  refine ⟨a1, a2, a3, a8, by omega, Nat.le_refl _, a5, by omega, a7, a9, h.ids.far hg (by omega) (fun k e => by cases e; omega), h.ins.far hg (by omega) (fun k e => by cases e; omega), ⟨off, c, by simp⟩, fun i => if i = a then u else vs i, ?_, fun i hi => ?_, fun i j hij hj => ?_⟩
  · have := Sl.set h1 (j := a) (by omega) u
    simpa using this
  · simp only [List.length_set] at hi
    dsimp only
    rw [hset]
    by_cases e : i = a
    · rw [if_pos e, if_pos e]
      exact ⟨(Sl.grown hu hg (Nat.le_refl _) hne : EndS _ _ _ _ _).mono (by omega) hs, hne⟩
    · rw [if_neg e, if_neg e]
      obtain ⟨e1, e2⟩ := h2 i hi
      exact ⟨(Sl.grown e1 hg (by omega) e2 : EndS _ _ _ _ _).mono (Nat.le_refl _) (by omega), e2⟩
  · simp only [List.length_set] at hj
    dsimp only
    rw [hset, hset]
    by_cases e : i = a
    · rw [if_pos e, if_pos e, if_neg (by omega), if_neg (by omega)]
      exact (hap j hj).2
    · rw [if_neg e, if_neg e]
      by_cases e2 : j = a
      · rw [if_pos e2, if_pos e2]
        exact (hap i (by omega)).1
      · rw [if_neg e2, if_neg e2]
        exact h3 i j hij hj
theorem RN.topAt {off n c : Nat} (h : RN w base d1 d2 d3 i2 rt g (.slice (some ⟨g, off, none⟩) n c) vD vI N) {a : Nat} (ha : a < N.ends.length) : ∃ x, w.cell? ⟨g, off + a, none⟩ = some x ∧ x.oneCell' = true ∧ w.frozen? ⟨g, off + a, none⟩ = false := by
  have hn : n = N.ends.length := by obtain ⟨o2, c2, e⟩ := h.top; injection e
  subst hn
  obtain ⟨vs, h1, h2, _⟩ := h.rows
  obtain ⟨e1, e2⟩ := h1.at_ (j := a) (by omega)
  obtain ⟨A, c2, e3, _⟩ := (h2 a ha).1
  exact ⟨_, e1, by rw [e3]; rfl, e2⟩
theorem RN.topForm {off n c : Nat} (h : RN w base d1 d2 d3 i2 rt g (.slice (some ⟨g, off, none⟩) n c) vD vI N) {a : Nat} (ha : a < N.ends.length) {x : Value} (hx : w.cell? ⟨g, off + a, none⟩ = some x) : ∃ A m c2, x = .slice A m c2 := by
  have hn : n = N.ends.length := by obtain ⟨o2, c2, e⟩ := h.top; injection e
  subst hn
  obtain ⟨vs, h1, h2, _⟩ := h.rows
  obtain ⟨e1, e2⟩ := h1.at_ (j := a) (by omega)
  rw [hx] at e1
  injection e1 with e1
  obtain ⟨A, c2, e3, _⟩ := (h2 a ha).1
  exact ⟨A, _, c2, by rw [e1, e3]⟩
theorem RN.weak {base' : Nat} (h : RN w base d1 d2 d3 i2 rt g vE vD vI N) (hb : base' ≤ base) : RN w base' d1 d2 d3 i2 rt g vE vD vI N :=
  ⟨Nat.le_trans hb h.o1, h.o2, h.o3, h.o5, h.o4, h.o6, Nat.le_trans hb h.g1, h.g2, h.g3, h.g4, h.ids, h.ins, h.top, h.rows⟩
/-- a number set in the ids or in the inputs -/
theorem RN.setD {b off n c : Nat} (h : RN w base d1 d2 d3 i2 rt g vE (.slice (some ⟨b, off, none⟩) n c) vI N) (hb1 : d1 ≤ b) (hb2 : b < d2) {a : Nat} (ha : a < N.ids.length) (z : Int) :
    RN (w.setCell ⟨b, off + a, none⟩ (.int .i64 z)) base d1 d2 d3 i2 (w.setCell ⟨b, off + a, none⟩ (.int .i64 z)).heap.size g vE (.slice (some ⟨b, off, none⟩) n c) vI ⟨N.ends, N.ids.set a z, N.inputs⟩ := by
  have a1 := h.o1; have a2 := h.o2; have a3 := h.o3; have a8 := h.o5; have a4 := h.o4; have a0 := h.o6; have a5 := h.g1; have a6 := h.g2; have a7 := h.g3; have a9 := h.g4
  have hg : w.grownBy (w.setCell ⟨b, off + a, none⟩ (.int .i64 z)) (some b) := grown_set w ⟨b, off + a, none⟩ _
  have hs := hg.size
  obtain ⟨vs, h1, h2, h3⟩ := h.rows
  refine ⟨a1, a2, a3, a8, by omega, Nat.le_refl _, a5, by omega, a7, a9, h.ids.set ha z, h.ins.far hg (by omega) (fun k e => by cases e; omega), h.top, vs, ?_, fun i hi => ?_, h3⟩
  · exact Sl.keep h1 fun k k1 k2 => hg.block k (by omega) (fun e => by cases e; omega)
  · obtain ⟨e1, e2⟩ := h2 i hi
    exact ⟨(e1.far hg (by omega) (fun k e => by cases e; omega)).mono (Nat.le_refl _) (by omega), e2⟩
theorem RN.setI {b off n c : Nat} (h : RN w base d1 d2 d3 i2 rt g vE vD (.slice (some ⟨b, off, none⟩) n c) N) (hb1 : d3 ≤ b) (hb2 : b < i2) {a : Nat} (ha : a < N.inputs.length) (z : Int) :
    RN (w.setCell ⟨b, off + a, none⟩ (.int .i64 z)) base d1 d2 d3 i2 (w.setCell ⟨b, off + a, none⟩ (.int .i64 z)).heap.size g vE vD (.slice (some ⟨b, off, none⟩) n c) ⟨N.ends, N.ids, N.inputs.set a z⟩ := by
  have a1 := h.o1; have a2 := h.o2; have a3 := h.o3; have a8 := h.o5; have a4 := h.o4; have a0 := h.o6; have a5 := h.g1; have a6 := h.g2; have a7 := h.g3; have a9 := h.g4
  have hg : w.grownBy (w.setCell ⟨b, off + a, none⟩ (.int .i64 z)) (some b) := grown_set w ⟨b, off + a, none⟩ _
  have hs := hg.size
  obtain ⟨vs, h1, h2, h3⟩ := h.rows
  refine ⟨a1, a2, a3, a8, by omega, Nat.le_refl _, a5, by omega, a7, a9, h.ids.far hg (by omega) (fun k e => by cases e; omega), h.ins.set ha z, h.top, vs, ?_, fun i hi => ?_, h3⟩
  · exact Sl.keep h1 fun k k1 k2 => hg.block k (by omega) (fun e => by cases e; omega)
  · obtain ⟨e1, e2⟩ := h2 i hi
    exact ⟨(e1.far hg (by omega) (fun k e => by cases e; omega)).mono (Nat.le_refl _) (by omega), e2⟩
/-- a network in the making: rows not there yet -/
theorem RN.made {t : TypeId} {n : Nat} {ids ins : List Int} (h : w.rowIs g t n (fun _ => .slice none 0 0)) (hm : n ≤ maxLen) (h0 : 0 < n) (o1 : base ≤ d1) (o2 : d1 ≤ d2) (o3 : d2 ≤ d3) (o5 : d3 ≤ i2) (o4 : i2 ≤ w.heap.size) (g1 : base ≤ g) (g2 : g < w.heap.size) (g3 : g < d1 ∨ d2 ≤ g) (g4 : g < d3 ∨ i2 ≤ g)
    (hD : IntS w d1 d2 vD ids) (hI : IntS w d3 i2 vI ins) : RN w base d1 d2 d3 i2 w.heap.size g (.slice (some ⟨g, 0, none⟩) n n) vD vI ⟨List.replicate n [], ids, ins⟩ := by
  have hnil : ∀ i, i < n → nthL (List.replicate n ([] : List (Int × Int))) i = [] := fun i hi => by simp [nthL, hi]
  refine ⟨o1, o2, o3, o5, o4, Nat.le_refl _, g1, g2, g3, g4, hD, hI, ⟨0, n, by simp⟩, fun _ => .slice none 0 0, ?_, fun i hi => ?_, fun i j hij hj => ?_⟩
  · have := Sl.of_row (lo := g) (sz := 1) (n := n) (c := n) h (Nat.le_refl _) (by omega) (Nat.le_refl _) hm
    simp only [List.length_replicate]
    exact Sl.keepHi this
  · simp only [List.length_replicate] at hi
    dsimp only
    rw [hnil i hi]
    exact ⟨EndS.nil _ _ _, .inl (by simp [rowOf])⟩
  · simp only [List.length_replicate] at hj
    rw [hnil i (by omega)]
    exact .inl (by simp [rowOf])
/-- a network whose top row, ids, inputs and rows lie apart -/
def NetZ (w : World) (lo hi : Nat) (v : Value) (N : NetD) : Prop := ∃ d1 d2 d3 i2 g vE vD vI, v = .agg #[vE, vD, vI] ∧ RN w lo d1 d2 d3 i2 hi g vE vD vI N
section
variable {lo hi lo' hi' B l2 h2 : Nat} {v : Value}
theorem NetZ.net (h : NetZ w lo hi v N) : Net w lo hi v N := by
  obtain ⟨d1, d2, d3, i2, g, vE, vD, vI, rfl, h⟩ := h
  exact h.netZ
theorem NetZ.below (h : NetZ w lo hi v N) (hb : Below B w w') (hB : hi ≤ B) : NetZ w' lo hi v N := by
  obtain ⟨d1, d2, d3, i2, g, vE, vD, vI, rfl, h⟩ := h
  exact ⟨_, _, _, _, _, _, _, _, rfl, h.belowB hb hB⟩
theorem NetZ.turned (h : NetZ w lo hi v N) (hb : Turned l2 h2 w w') (hB : hi ≤ w.heap.size) (hd : hi ≤ l2 ∨ h2 ≤ lo) : NetZ w' lo hi v N := by
  obtain ⟨d1, d2, d3, i2, g, vE, vD, vI, rfl, h⟩ := h
  exact ⟨_, _, _, _, _, _, _, _, rfl, h.turned hb hd⟩
theorem NetZ.mono (h : NetZ w lo hi v N) (h1 : lo' ≤ lo) (h2 : hi ≤ hi') (h3 : hi' ≤ w.heap.size) : NetZ w lo' hi' v N := by
  obtain ⟨d1, d2, d3, i2, g, vE, vD, vI, rfl, h⟩ := h
  exact ⟨_, _, _, _, _, _, _, _, rfl, (h.weak h1).up h2 h3⟩
end
end
end Go.Proofs.Ytmdlginjblnfoaa

/- Steps of regions that draw their order: an append of a row that the call owns too; a region cut behind its operations. No condition on any program. -/
namespace Go.Proofs.Ytmdlginjblnfoaa
open Go.ChangeShapes Go.WideShapes Go.ChangeAt Go.RowKit
set_option linter.unusedVariables false

/-- append, at a step of a region that draws its order, of a row that the call owns too -/
theorem step_append_own2 {P : Program} {ops : Array Oper} {o : Oper} {a : Act} {K : Act → World → Prop} {Q : Exit → Act → World → Prop} {E : Prop} {t e : TypeId} {z : Value} {sz bytes : Nat}
    (ht : P.underlying t = some (.slice e)) (hinfo : (P.info? e).map (fun i => (i.zero, i.size, i.bytes)) = some (some z, sz, bytes)) (hz1 : z.cells.size = sz) (hsz : 0 < sz) (hby : bytes ≤ 64)
    (w : World) (hgd : o.guard = none) {s : Operand} (x : Operand) (ho : o.op = .call { callee := .builtin .append, args := #[s, x], argTypes := #[t, t] })
    {base : Nat} {v : Value} {n : Nat} {xs : List Value} (hown : w.ownsRow base e sz v n xs) (hs : a.eval s = v) {base2 : Nat} {e2 : TypeId} {v2 : Value} {m : Nat} (news : List Value) (hown2 : w.ownsRow base2 e2 sz v2 m news) (hx : a.eval x = v2)
    (h1 : ∀ u ∈ news, u.oneCell' = true) (hlen : n + m ≤ 1099511627776) (hbase : base ≤ w.heap.size)
    (h : ∀ v' w', w'.ownsRow base e sz v' (n + m) (xs ++ news) → w.grownBy w' v.ownBlock → (v'.ownBlock = v.ownBlock ∨ ∃ g, v'.ownBlock = some g ∧ w.heap.size ≤ g) → K (a.put o.dst v') w') :
    if Region.wanted o (yielded ops a.tmps) = true then Oper.wp P o a w K Q else E := by
  have hw : Region.wanted o (yielded ops a.tmps) = true := by simp [Region.wanted, hgd]
  rw [if_pos hw]
  obtain ⟨i, hi, hzz⟩ := Option.map_eq_some_iff.1 hinfo
  simp only [Prod.mk.injEq] at hzz
  obtain ⟨hz, hsz2, hb⟩ := hzz
  obtain ⟨hl2, h2⟩ := hown2
  rcases h2 with ⟨rfl, hm0⟩ | ⟨g2, cap2, cur2, rfl, hg2, hh2, hn2, hm2, hs2, ht2⟩
  · subst hm0
    have hnil : news = [] := List.eq_nil_of_length_eq_zero (by rw [hl2, Nat.zero_mul])
    subst hnil
    have hrun := run_append_owned_none (P := P) (w := w) base t o.type e i sz ht hi v n xs hown
    have h3 := h v w (by simpa using hown) ⟨rfl, rfl, rfl, Nat.le_refl _, fun _ _ _ => rfl⟩ (.inl rfl)
    unfold Oper.wp
    simp [execOp, ho, resolve, invoke, builtin, hs, hx, hrun, Result.andThen]
    exact h3
  · have hnews : ∀ j u, news[j]? = some u → w.cell? ((⟨g2, 0, none⟩ : Addr).add j) = some u := fun j u hj => by
      have hjl : j < m * sz := by rw [← hl2]; exact (List.getElem?_eq_some_iff.1 hj).1
      rw [Go.WideShapes.add_plain g2 0 j, cell_of_row w g2 _ cur2 e2 (0, 0) hh2, Nat.zero_add]
      rw [← ht2, List.getElem?_take_of_lt hjl] at hj
      simpa using hj
    obtain ⟨v', w', hr, a1, a2, _, a4⟩ := run_append_own_at (P := P) w base t o.type e i z sz bytes ht hi hz hsz2 hb hz1 hsz v n xs hown ⟨g2, 0, none⟩ m cap2 news hl2 hnews h1 (by unfold maxLen; omega) (by
      have : (n + m) * bytes ≤ 1099511627776 * 64 := Nat.mul_le_mul hlen hby
      omega) hbase
    have h3 := h v' w' a1 a2 (a4.imp id fun e => ⟨_, e, Nat.le_refl _⟩)
    unfold Oper.wp execOp
    simp only [ho, resolve, invoke, builtin, Sem.run_bind, Sem.run_pure, Result.andThen_ok, List.map_toArray, List.map_cons, List.map_nil, hs, hx, hr]
    exact h3
/-- an empty row in a block of its own -/
theorem owns_empty (w : World) (base : Nat) (e : TypeId) (k : Nat) {g : Nat} (hg : w.heap.size = g) (hb : base ≤ g) : (w.alloc (.cells #[] e)).ownsRow base e k (.slice (some ⟨g, 0, none⟩) 0 0) 0 [] := by
  subst hg
  refine ⟨by simp, .inr ⟨w.heap.size, 0, #[], by simp, hb, heap_alloc_new w _, by simp, by simp, by simp, by simp⟩⟩
/-- a block known whole is a row of one -/
theorem owns_box {w : World} {g : Nat} {cs : Array Value} {e : TypeId} (h : BoxN w g cs e) {k : Nat} (hk : cs.size = k) (base : Nat) (hb : base ≤ g) : w.ownsRow base e k (.slice (some ⟨g, 0, none⟩) 1 1) 1 cs.toList := by
  have h' : w.heap[g]? = some (.cells cs e (0, 0)) := h
  exact ⟨by simp [hk], .inr ⟨g, 1, cs, rfl, hb, h', Nat.le_refl _, by unfold maxLen; omega, by omega, List.take_of_length_le (by simp [hk])⟩⟩
theorem grown_new {a b c : World} {row : Option Nat} (h : a.grownBy b none) (k : b.grownBy c row) (hr : ∀ g, row = some g → a.heap.size ≤ g) : a.grownBy c none :=
  ⟨k.os.trans h.os, k.tape.trans h.tape, k.output.trans h.output, Nat.le_trans h.size k.size, fun i hi _ => (k.block i (Nat.lt_of_lt_of_le hi h.size) (fun e => by have := hr i e.symm; omega)).trans (h.block i hi (by simp))⟩
theorem run_append_zero {P : Program} {w : World} (base : Nat) (t ty e : TypeId) (i : TypeInfo) (size : Nat) (ht : P.underlying t = some (.slice e)) (hi : P.info? e = some i)
    (v : Value) (n : Nat) (xs : List Value) (hown : w.ownsRow base e size v n xs) (A : Option Addr) (c : Nat) :
    (Builtin.append_ #[t, t] ty #[v, .slice A 0 c]).run P w = .ok v w := by
  rcases hown.2 with ⟨rfl, rfl⟩ | ⟨g, cap, cur, rfl, _, _, hnc, _⟩
  · cases A <;> simp [Builtin.append_, run_underlying ht, sizeOf, typeInfo, hi, Builtin.lenOf, Builtin.firstCells, loadCells, loadCellsFrom]
  · cases A <;> simp [Builtin.append_, run_underlying ht, sizeOf, typeInfo, hi, Builtin.lenOf, Builtin.firstCells, hnc, storeCells, loadCells, loadCellsFrom]
/-- append of nothing, wherever it lies -/
theorem append_zero {P : Program} {ops : Array Oper} {rest : List Oper} {o : Oper} {a : Act} {Q : Exit → Act → World → Prop} {t e : TypeId} {i : TypeInfo} {size : Nat}
    (ht : P.underlying t = some (.slice e)) (hi : P.info? e = some i) (w : World) (hgd : o.guard = none) {s : Operand} (x : Operand) (ho : o.op = .call { callee := .builtin .append, args := #[s, x], argTypes := #[t, t] })
    {base : Nat} {v : Value} {n : Nat} {xs : List Value} (hown : w.ownsRow base e size v n xs) (hs : a.eval s = v) {A : Option Addr} {c : Nat} (hx : a.eval x = .slice A 0 c)
    (h : wpList P ops Q rest (a.put o.dst v) w) : wpList P ops Q (o :: rest) a w := by
  refine wpList_plain hgd fun K hK => ?_
  have hrun := run_append_zero (P := P) (w := w) base t o.type e i size ht hi v n xs hown A c
  unfold Oper.wp
  simp [execOp, ho, resolve, invoke, builtin, hs, hx, hrun, Result.andThen]
  exact hK _ _ h
theorem nameA {K : Act → World → Prop} {a : Act} {w : World} (h : ∀ W, Hid (W = w) → K a W) : K a w := h w (Lib.hid rfl)
/-- a cell that is known -/
structure CellH (w : World) (p : Addr) (v : Value) : Prop where
  cell : w.cell? p = some v
  lt : p.block < w.heap.size
theorem CellH.far {w w' : World} {p : Addr} {v : Value} {row : Option Nat} (h : CellH w p v) (hg : w.grownBy w' row) (hr : ∀ g, row = some g → g ≠ p.block) : CellH w' p v :=
  ⟨(World.cell?_of_block (hg.block p.block h.lt (fun e => hr _ e.symm rfl))).trans h.cell, Nat.lt_of_lt_of_le h.lt hg.size⟩
theorem CellH.still {w w' : World} {p : Addr} {v : Value} (h : CellH w p v) (hg : w.grownBy w' none) : CellH w' p v := h.far hg (fun g e => by cases e)
/-- values put into slots, one after another -/
def puts (a : Act) : List Nat → List Value → Act
  | d :: ds, v :: vs => puts (a.put (some d) v) ds vs
  | _, _ => a
/-- whatever order the operations came up in: what is known behind them -/
theorem region_cut {P : Program} {id : Nat} {ops : Array Oper} {b : Bool} {Q : Exit → Act → World → Prop} {a0 : Act} {w : World} (ds : List Nat) (R : List Value → World → Prop)
    (h1 : (Code.region id ops b).wp P (fun e a w' => ∃ vs, R vs w' ∧ e = .normal ∧ a = puts a0 ds vs) a0 w)
    (h2 : ∀ vs w', R vs w' → Q .normal (puts a0 ds vs) w') : (Code.region id ops b).wp P Q a0 w :=
  Code.wp_mono (fun e a w' ⟨vs, hr, he, ha⟩ => by subst he ha; exact h2 vs w' hr) h1
end Go.Proofs.Ytmdlginjblnfoaa

/- Plain: the walk of a token through a network; it ends, and it is short. No condition on any program. -/
namespace Go.Proofs.Ytmdlginjblnfoaa
set_option linter.unusedVariables false

/-- which ports were used, which nodes met, and the moves so far -/
structure Tk where
  used : Int → Int → Bool
  met : Nat → Bool
  moves : List (List Int)
def setU (u : Int → Int → Bool) (a b : Int) : Int → Int → Bool := fun x y => (x == a && y == b) || u x y
def setM (m : Nat → Bool) (a : Nat) : Nat → Bool := fun x => x == a || m x
def endAt (N : NetD) (v i : Nat) : Int × Int := nthE (nthL N.ends v) i
def degAt (N : NetD) (v : Nat) : Nat := (nthL N.ends v).length
/-- the token leaves node v by port i -/
def tpre (N : NetD) (v i : Nat) (σ : Tk) : Tk := ⟨setU (setU σ.used v i) (endAt N v i).1 (endAt N v i).2, σ.met, σ.moves ++ [[(v : Int), (i : Int)]]⟩
/-- and comes back -/
def tpost (e : Int × Int) (σ : Tk) : Tk := ⟨σ.used, σ.met, σ.moves ++ [[e.1, e.2]]⟩
def tstep (N : NetD) (rec : Nat → Tk → Tk) (v i : Nat) (σ : Tk) : Tk :=
  if σ.used v i = true then σ
  else tpost (endAt N v i) (if σ.met (endAt N v i).1.toNat = true then tpre N v i σ else rec (endAt N v i).1.toNat (tpre N v i σ))
def tloop (N : NetD) (rec : Nat → Tk → Tk) (v : Nat) : Nat → Tk → Tk
  | 0, σ => σ
  | k + 1, σ => tstep N rec v k (tloop N rec v k σ)
def tin (v : Nat) (σ : Tk) : Tk := ⟨σ.used, setM σ.met v, σ.moves⟩
def tvisit (N : NetD) : Nat → Nat → Tk → Tk
  | 0, _, σ => σ
  | f + 1, v, σ => tloop N (tvisit N f) v (degAt N v) (tin v σ)
theorem tvisit_succ (N : NetD) (f v : Nat) (σ : Tk) : tvisit N (f + 1) v σ = tloop N (tvisit N f) v (degAt N v) (tin v σ) := rfl
theorem tstep_used {N : NetD} {rec : Nat → Tk → Tk} {v i : Nat} {σ : Tk} (h : σ.used v i = true) : tstep N rec v i σ = σ := by unfold tstep; rw [if_pos h]
theorem tstep_met {N : NetD} {rec : Nat → Tk → Tk} {v i : Nat} {σ : Tk} (h : σ.used v i = false) (h2 : σ.met (endAt N v i).1.toNat = true) : tstep N rec v i σ = tpost (endAt N v i) (tpre N v i σ) := by unfold tstep; rw [if_neg (by rw [h]; simp), if_pos h2]
theorem tstep_new {N : NetD} {rec : Nat → Tk → Tk} {v i : Nat} {σ : Tk} (h : σ.used v i = false) (h2 : σ.met (endAt N v i).1.toNat = false) : tstep N rec v i σ = tpost (endAt N v i) (rec (endAt N v i).1.toNat (tpre N v i σ)) := by unfold tstep; rw [if_neg (by rw [h]; simp), if_neg (by rw [h2]; simp)]

/-- the met stay met -/
def KeepsMet (rec : Nat → Tk → Tk) : Prop := ∀ v σ x, σ.met x = true → (rec v σ).met x = true
theorem tstep_keeps {N : NetD} {rec : Nat → Tk → Tk} (h : KeepsMet rec) (v i : Nat) (σ : Tk) (x : Nat) (hx : σ.met x = true) : (tstep N rec v i σ).met x = true := by
  cases h1 : σ.used v i with
  | true => rw [tstep_used h1]; exact hx
  | false =>
    cases h2 : σ.met (endAt N v i).1.toNat with
    | true => rw [tstep_met h1 h2]; exact hx
    | false => rw [tstep_new h1 h2]; exact h _ _ x hx
theorem tloop_keeps {N : NetD} {rec : Nat → Tk → Tk} (h : KeepsMet rec) (v : Nat) : ∀ (k : Nat) (σ : Tk) (x : Nat), σ.met x = true → (tloop N rec v k σ).met x = true
  | 0, _, _, hx => hx
  | k + 1, σ, x, hx => tstep_keeps h v k _ x (tloop_keeps h v k σ x hx)
theorem tvisit_keeps (N : NetD) : ∀ f, KeepsMet (tvisit N f)
  | 0 => fun _ _ _ h => h
  | f + 1 => fun v σ x hx => tloop_keeps (tvisit_keeps N f) v _ _ x (by unfold tin setM; simp [hx])
theorem filter_lt {α : Type} {p q : α → Bool} (h : ∀ x, q x = true → p x = true) {a : α} (hp : p a = true) (hq : q a = false) : ∀ {l : List α}, a ∈ l → (l.filter q).length + 1 ≤ (l.filter p).length
  | [], ha => by cases ha
  | x :: l, ha => by
    have hle : ∀ l : List α, (l.filter q).length ≤ (l.filter p).length := fun l => by
      induction l with
      | nil => exact Nat.le_refl _
      | cons y l ih =>
        simp only [List.filter_cons]
        cases hy : q y with
        | true => rw [h y hy]; simpa using ih
        | false =>
          cases p y with
          | true => simp; omega
          | false => simpa using ih
    simp only [List.filter_cons]
    rcases List.mem_cons.1 ha with rfl | ha
    · rw [hp, hq]
      have := hle l
      simp; omega
    · have := filter_lt h hp hq ha
      cases hx : q x with
      | true => rw [h x hx]; simp; omega
      | false =>
        cases p x with
        | true => simp; omega
        | false => simpa using this
theorem filter_le {α : Type} {p q : α → Bool} (h : ∀ x, q x = true → p x = true) (l : List α) : (l.filter q).length ≤ (l.filter p).length := by
  induction l with
  | nil => exact Nat.le_refl _
  | cons y l ih =>
    simp only [List.filter_cons]
    cases hy : q y with
    | true => rw [h y hy]; simpa using ih
    | false =>
      cases p y with
      | true => simp; omega
      | false => simpa using ih
/-- how many of the first n nodes are not met -/
def unm (n : Nat) (m : Nat → Bool) : Nat := ((List.range n).filter fun x => !m x).length
theorem unm_mono {n : Nat} {m m' : Nat → Bool} (h : ∀ x, m x = true → m' x = true) : unm n m' ≤ unm n m :=
  filter_le (fun x hx => by
    cases hm : m x with
    | true => have := h x hm; simp [this] at hx
    | false => rfl) _
theorem unm_set {n v : Nat} {m : Nat → Bool} (hv : v < n) (hm : m v = false) : unm n (setM m v) + 1 ≤ unm n m :=
  filter_lt (fun x hx => by unfold setM at hx; cases h : m x with
    | true => simp [h] at hx
    | false => rfl) (a := v) (by simp [hm]) (by simp [setM]) (List.mem_range.2 hv)
theorem unm_le (n : Nat) (m : Nat → Bool) : unm n m ≤ n := Nat.le_trans (List.length_filter_le _ _) (by simp)
theorem unm_pos {n v : Nat} {m : Nat → Bool} (hv : v < n) (hm : m v = false) : 0 < unm n m := by have := unm_set hv hm; omega
/-- the places where a port may lie -/
def grid : List (Nat × Nat) := (List.range 40).flatMap fun v => (List.range 6).map fun i => (v, i)
theorem grid_len : grid.length = 240 := by decide +kernel
theorem mem_grid {v i : Nat} (hv : v < 40) (hi : i < 6) : (v, i) ∈ grid := by
  unfold grid
  rw [List.mem_flatMap]
  exact ⟨v, List.mem_range.2 hv, List.mem_map.2 ⟨i, List.mem_range.2 hi, rfl⟩⟩
def free (u : Int → Int → Bool) : Nat := (grid.filter fun p => !u p.1 p.2).length
theorem free_le (u : Int → Int → Bool) : free u ≤ 240 := by rw [← grid_len]; exact List.length_filter_le _ _
/-- the moves so far, and those that may come -/
def bnd (σ : Tk) : Nat := σ.moves.length + 2 * free σ.used
theorem setU_of {u : Int → Int → Bool} {a b x y : Int} (h : u x y = true) : setU u a b x y = true := by unfold setU; rw [h, Bool.or_true]
theorem setU_at (u : Int → Int → Bool) (a b : Int) : setU u a b a b = true := by unfold setU; simp
theorem setU_ne {u : Int → Int → Bool} {a b x y : Int} (h : ¬ (x = a ∧ y = b)) : setU u a b x y = u x y := by
  unfold setU
  have : (x == a && y == b) = false := by
    rw [Bool.and_eq_false_iff]
    by_cases e : x = a
    · right; simp; exact fun e2 => h ⟨e, e2⟩
    · left; simpa using e
  rw [this, Bool.false_or]
theorem bnd_pre {N : NetD} (h40 : N.ends.length ≤ 40) (h6 : ∀ v, degAt N v ≤ 6) {v i : Nat} {σ : Tk} (hi : i < degAt N v) (hu : σ.used v i = false) : bnd (tpre N v i σ) + 1 ≤ bnd σ := by
  have hv : v < N.ends.length := by
    rcases Nat.lt_or_ge v N.ends.length with h | h
    · exact h
    · exfalso
      unfold degAt nthL at hi
      rw [List.getD_eq_getElem?_getD, List.getElem?_eq_none h] at hi
      simp at hi
  have := filter_lt (l := grid) (p := fun p => !σ.used p.1 p.2) (q := fun p => !(setU (setU σ.used v i) (endAt N v i).1 (endAt N v i).2) p.1 p.2) (fun p hp => by
    cases h : σ.used p.1 p.2 with
    | true => rw [setU_of (setU_of h)] at hp; exact absurd hp (by simp)
    | false => rfl) (a := (v, i)) (by rw [hu]; rfl) (by rw [setU_of (setU_at _ _ _)]; rfl) (mem_grid (by omega) (by have := h6 v; omega))
  unfold bnd tpre free
  simp only [List.length_append, List.length_cons, List.length_nil]
  omega
theorem bnd_post (e : Int × Int) (σ : Tk) : bnd (tpost e σ) = bnd σ + 1 := by unfold bnd tpost; simp; omega
theorem bnd_in (v : Nat) (σ : Tk) : bnd (tin v σ) = bnd σ := rfl
def Shrinks (rec : Nat → Tk → Tk) : Prop := ∀ v σ, bnd (rec v σ) ≤ bnd σ
theorem tstep_bnd {N : NetD} (h40 : N.ends.length ≤ 40) (h6 : ∀ v, degAt N v ≤ 6) {rec : Nat → Tk → Tk} (h : Shrinks rec) {v i : Nat} (σ : Tk) (hi : i < degAt N v) : bnd (tstep N rec v i σ) ≤ bnd σ := by
  cases h1 : σ.used v i with
  | true => rw [tstep_used h1]; exact Nat.le_refl _
  | false =>
    have h0 := bnd_pre h40 h6 hi h1
    cases h2 : σ.met (endAt N v i).1.toNat with
    | true => rw [tstep_met h1 h2, bnd_post]; exact h0
    | false =>
      rw [tstep_new h1 h2, bnd_post]
      have := h (endAt N v i).1.toNat (tpre N v i σ)
      omega
theorem tloop_bnd {N : NetD} (h40 : N.ends.length ≤ 40) (h6 : ∀ v, degAt N v ≤ 6) {rec : Nat → Tk → Tk} (h : Shrinks rec) (v : Nat) : ∀ (k : Nat) (σ : Tk), k ≤ degAt N v → bnd (tloop N rec v k σ) ≤ bnd σ
  | 0, _, _ => Nat.le_refl _
  | k + 1, σ, hk => Nat.le_trans (tstep_bnd h40 h6 h _ (by omega)) (tloop_bnd h40 h6 h v k σ (by omega))
theorem tvisit_bnd {N : NetD} (h40 : N.ends.length ≤ 40) (h6 : ∀ v, degAt N v ≤ 6) : ∀ f, Shrinks (tvisit N f)
  | 0 => fun _ _ => Nat.le_refl _
  | f + 1 => fun v σ => by rw [tvisit_succ]; exact Nat.le_trans (tloop_bnd h40 h6 (tvisit_bnd h40 h6 f) v _ _ (Nat.le_refl _)) (Nat.le_of_eq (bnd_in v σ))
def tk0 : Tk := ⟨fun _ _ => false, fun _ => false, []⟩
/-- the moves of the token -/
def walkOf (N : NetD) (r : Nat) : List (List Int) := (tvisit N N.ends.length r tk0).moves
theorem walkOf_len {N : NetD} (h40 : N.ends.length ≤ 40) (h6 : ∀ v, degAt N v ≤ 6) (r : Nat) : (walkOf N r).length ≤ 480 := by
  have h1 := tvisit_bnd h40 h6 N.ends.length r tk0
  have h2 := free_le (tk0.used)
  unfold bnd at h1
  have : tk0.moves.length = 0 := rfl
  unfold walkOf
  omega

end Go.Proofs.Ytmdlginjblnfoaa

/- Plain: the trails of a network: from port to port over an edge and on to the port's partner; they end or close; they are marked and gathered in two passes. No condition on any program. -/
namespace Go.Proofs.Ytmdlginjblnfoaa
set_option linter.unusedVariables false

abbrev Po := Nat × Nat
def okP (N : NetD) (p : Po) : Prop := p.1 < N.ends.length ∧ p.2 < degAt N p.1
def fl (i : Nat) : Nat := if i % 2 = 0 then i + 1 else i - 1
theorem fl_fl (i : Nat) : fl (fl i) = i := by unfold fl; split <;> split <;> omega
theorem fl_le (i : Nat) : fl i ≤ i + 1 := by unfold fl; split <;> omega
/-- the other end of a port's edge -/
def ep (N : NetD) (p : Po) : Po := ((endAt N p.1 p.2).1.toNat, (endAt N p.1 p.2).2.toNat)
def pairedB (N : NetD) (p : Po) : Bool := decide (fl p.2 < degAt N p.1)
def pi (p : Po) : Po := (p.1, fl p.2)
theorem pi_pi (p : Po) : pi (pi p) = p := by unfold pi; rw [fl_fl]
/-- the next port of a trail -/
def nx (N : NetD) (p : Po) : Option Po := if pairedB N (ep N p) = true then some (pi (ep N p)) else none
section
variable {N : NetD}
theorem ep_cast (hg : N.good = true) {p : Po} (hp : okP N p) : endAt N p.1 p.2 = (((ep N p).1 : Int), ((ep N p).2 : Int)) := by
  obtain ⟨t, r, e, _⟩ := good_end hg hp.1 hp.2
  unfold ep endAt
  rw [e]; simp
theorem ep_ok (hg : N.good = true) {p : Po} (hp : okP N p) : okP N (ep N p) ∧ ep N (ep N p) = p := by
  obtain ⟨t, r, e, h1, h2, h3⟩ := good_end hg hp.1 hp.2
  have e1 : ep N p = (t, r) := by unfold ep endAt; rw [e]; simp
  rw [e1]
  refine ⟨⟨h1, h2⟩, ?_⟩
  unfold ep endAt
  rw [h3]; simp
theorem pi_ok {p : Po} (hp : okP N p) (h : pairedB N p = true) : okP N (pi p) ∧ pairedB N (pi p) = true := by
  unfold pairedB at *
  rw [decide_eq_true_eq] at *
  refine ⟨⟨hp.1, h⟩, ?_⟩
  unfold pi
  dsimp only
  rw [fl_fl]
  exact hp.2
theorem nx_yes {p : Po} (h : pairedB N (ep N p) = true) : nx N p = some (pi (ep N p)) := by unfold nx; rw [if_pos h]
theorem nx_no {p : Po} (h : pairedB N (ep N p) = false) : nx N p = none := by unfold nx; rw [if_neg (by rw [h]; simp)]
theorem nx_inv {p q : Po} (h : nx N p = some q) : pairedB N (ep N p) = true ∧ pi (ep N p) = q := by
  unfold nx at h
  split at h
  next h1 => injection h with h; exact ⟨h1, h⟩
  next => cases h
theorem nx_ok (hg : N.good = true) {p q : Po} (hp : okP N p) (h : nx N p = some q) : okP N q := by
  obtain ⟨h1, rfl⟩ := nx_inv h
  exact (pi_ok (ep_ok hg hp).1 h1).1
theorem nx_back (hg : N.good = true) {p q : Po} (hp : okP N p) (h : nx N p = some q) : pairedB N q = true ∧ pi q = ep N p ∧ ep N (pi q) = p := by
  obtain ⟨h1, rfl⟩ := nx_inv h
  refine ⟨(pi_ok (ep_ok hg hp).1 h1).2, pi_pi _, ?_⟩
  rw [pi_pi]
  exact (ep_ok hg hp).2
theorem nx_inj (hg : N.good = true) {p p' q : Po} (hp : okP N p) (hp' : okP N p') (h : nx N p = some q) (h' : nx N p' = some q) : p = p' := by
  rw [← (nx_back hg hp h).2.2, ← (nx_back hg hp' h').2.2]
end

def nthP (l : List Po) (i : Nat) : Po := l.getD i (0, 0)
theorem nthP_eq {l : List Po} {i : Nat} (h : i < l.length) : nthP l i = l[i] := by simp [nthP, h]
theorem nthP_mem {l : List Po} {i : Nat} (h : i < l.length) : nthP l i ∈ l := by rw [nthP_eq h]; exact List.getElem_mem h
theorem nthP_left {a b : List Po} {i : Nat} (h : i < a.length) : nthP (a ++ b) i = nthP a i := by simp [nthP, List.getElem?_append_left h]
theorem nthP_at (a : List Po) (x : Po) : nthP (a ++ [x]) a.length = x := by simp [nthP]
theorem mem_nthP {l : List Po} {x : Po} (h : x ∈ l) : ∃ i, i < l.length ∧ nthP l i = x := by
  obtain ⟨i, hi, e⟩ := List.mem_iff_getElem.1 h
  exact ⟨i, hi, by rw [nthP_eq hi]; exact e⟩
theorem nthP_inj {l : List Po} (h : l.Nodup) {i j : Nat} (hi : i < l.length) (hj : j < l.length) (e : nthP l i = nthP l j) : i = j := by
  rw [nthP_eq hi, nthP_eq hj] at e
  rcases Nat.lt_trichotomy i j with h1 | h1 | h1
  · exact absurd e (List.pairwise_iff_getElem.1 h i j hi hj h1)
  · exact h1
  · exact absurd e.symm (List.pairwise_iff_getElem.1 h j i hj hi h1)
theorem ext_nthP {a b : List Po} (hl : a.length = b.length) (h : ∀ i, i < a.length → nthP a i = nthP b i) : a = b := by
  apply List.ext_getElem hl
  intro i h1 h2
  have := h i h1
  rwa [nthP_eq h1, nthP_eq h2] at this
theorem subLen {α : Type} [DecidableEq α] : ∀ (l m : List α), l.Nodup → (∀ x ∈ l, x ∈ m) → l.length ≤ m.length
  | [], _, _, _ => Nat.zero_le _
  | x :: l, m, hn, h => by
    have hx := h x (List.mem_cons_self ..)
    have hn2 := List.nodup_cons.1 hn
    have := subLen l (m.erase x) hn2.2 (fun y hy => (List.mem_erase_of_ne (fun e => hn2.1 (by rw [← e]; exact hy))).2 (h y (List.mem_cons_of_mem _ hy)))
    rw [List.length_erase_of_mem hx] at this
    have : 0 < m.length := List.length_pos_of_mem hx
    simp only [List.length_cons]
    omega

/-- a stretch of a trail -/
structure Ch (N : NetD) (s : Po) (l : List Po) : Prop where
  pos : 0 < l.length
  head : nthP l 0 = s
  ok : ∀ p ∈ l, okP N p
  link : ∀ i, i + 1 < l.length → nx N (nthP l i) = some (nthP l (i + 1))
  nd : l.Nodup
def lastP (l : List Po) : Po := nthP l (l.length - 1)
theorem lastP_snoc (l : List Po) (x : Po) : lastP (l ++ [x]) = x := by unfold lastP; simp [nthP]
section
variable {N : NetD} {s : Po}
theorem Ch.one (h : okP N s) : Ch N s [s] :=
  ⟨by simp, rfl, fun p hp => by rw [List.mem_singleton.1 hp]; exact h, fun i hi => absurd hi (by simp), by simp⟩
theorem Ch.last {l : List Po} (h : Ch N s l) : okP N (lastP l) := h.ok _ (nthP_mem (by have := h.pos; omega))
theorem Ch.step (hg : N.good = true) {l : List Po} (h : Ch N s l) {q : Po} (hq : nx N (lastP l) = some q) (hs : q ≠ s) : Ch N s (l ++ [q]) := by
  have hp := h.pos
  refine ⟨by simp, by rw [nthP_left hp]; exact h.head, fun p hm => ?_, fun i hi => ?_, ?_⟩
  · rcases List.mem_append.1 hm with hm | hm
    · exact h.ok p hm
    · rw [List.mem_singleton.1 hm]; exact nx_ok hg h.last hq
  · simp only [List.length_append, List.length_cons, List.length_nil] at hi
    by_cases e : i + 1 < l.length
    · rw [nthP_left e, nthP_left (by omega)]; exact h.link i e
    · obtain rfl : i = l.length - 1 := by omega
      rw [nthP_left (by omega), show l.length - 1 + 1 = l.length by omega, nthP_at]
      exact hq
  · refine List.nodup_append.2 ⟨h.nd, by simp, fun a ha b hb e => ?_⟩
    rw [List.mem_singleton.1 hb] at e
    subst e
    obtain ⟨j, hj, e⟩ := mem_nthP ha
    match j, hj, e with
    | 0, _, e => exact hs (by rw [← e]; exact h.head)
    | j + 1, hj, e =>
      have h1 := h.link j hj
      rw [e] at h1
      have h2 := nx_inj hg (h.ok _ (nthP_mem (by omega))) h.last h1 hq
      have := nthP_inj h.nd (by omega) (by omega) h2
      omega
theorem Ch.len (hg : N.good = true) {l : List Po} (h : Ch N s l) : l.length ≤ 240 := by
  have h1 := subLen l grid h.nd (fun p hp => by
    obtain ⟨a, b⟩ := h.ok p hp
    have := (good_n hg).2
    have := good_deg hg a
    unfold degAt at b
    exact mem_grid (by omega) (by omega))
  rwa [grid_len] at h1
end

/-- l is the whole trail that begins at s; c: it is closed -/
def TrO (N : NetD) (s : Po) (l : List Po) (c : Bool) : Prop := Ch N s l ∧ nx N (lastP l) = if c = true then some s else none
section
variable {N : NetD} {s : Po}
theorem TrO.le {l l' : List Po} {c c' : Bool} (h : TrO N s l c) (h' : TrO N s l' c') : l'.length ≤ l.length ∧ ∀ i, i < l'.length → nthP l i = nthP l' i := by
  have hp := h.1.pos
  have key : ∀ i, i < l.length → i < l'.length → nthP l i = nthP l' i := by
    intro i
    induction i with
    | zero => intro _ _; rw [h.1.head, h'.1.head]
    | succ i ih =>
      intro h1 h2
      have e1 := h.1.link i h1
      have e2 := h'.1.link i h2
      rw [ih (by omega) (by omega), e2] at e1
      injection e1 with e1
      exact e1.symm
  have hle : l'.length ≤ l.length := by
    rcases Nat.lt_or_ge l.length l'.length with h1 | h1
    · exfalso
      have e1 := h'.1.link (l.length - 1) (by omega)
      rw [← key (l.length - 1) (by omega) (by omega)] at e1
      have e2 := h.2
      unfold lastP at e2
      rw [e1] at e2
      split at e2
      · injection e2 with e2
        rw [show l.length - 1 + 1 = l.length by omega] at e2
        have := nthP_inj h'.1.nd (i := l.length) (j := 0) h1 (by omega) (by rw [e2, h'.1.head])
        omega
      · cases e2
    · exact h1
  exact ⟨hle, fun i hi => key i (by omega) hi⟩
theorem TrO.uniq {l l' : List Po} {c c' : Bool} (h : TrO N s l c) (h' : TrO N s l' c') : l = l' ∧ c = c' := by
  have h1 := h.le h'
  have h2 := h'.le h
  obtain rfl : l = l' := ext_nthP (by omega) (fun i hi => h1.2 i (by omega))
  refine ⟨rfl, ?_⟩
  have e := h.2.symm.trans h'.2
  cases c <;> cases c' <;> simp at e <;> rfl
theorem TrO.ex (hg : N.good = true) (hs : okP N s) : ∃ l c, TrO N s l c := by
  suffices h : ∀ (k : Nat) (l : List Po), Ch N s l → 241 - l.length ≤ k → ∃ l c, TrO N s l c from h 241 [s] (Ch.one hs) (by simp)
  intro k
  induction k with
  | zero => intro l hl hk; have := hl.len hg; omega
  | succ k ih =>
    intro l hl hk
    cases hn : nx N (lastP l) with
    | none => exact ⟨l, false, hl, by rw [hn]; rfl⟩
    | some q =>
      by_cases e : q = s
      · exact ⟨l, true, hl, by rw [hn, e]; rfl⟩
      · exact ih _ (hl.step hg hn e) (by have := hl.len hg; simp; omega)
end
open Classical in
/-- the trail from s -/
noncomputable def trl (N : NetD) (s : Po) : List Po := if h : ∃ l c, TrO N s l c then h.choose else []
open Classical in
noncomputable def trc (N : NetD) (s : Po) : Bool := decide (∃ l, TrO N s l true)
section
variable {N : NetD} {s : Po}
theorem TrO.eq {l : List Po} {c : Bool} (h : TrO N s l c) : trl N s = l ∧ trc N s = c := by
  constructor
  · unfold trl
    have hx : ∃ l c, TrO N s l c := ⟨l, c, h⟩
    rw [dif_pos hx]
    obtain ⟨c', h'⟩ := hx.choose_spec
    exact (h'.uniq h).1
  · unfold trc
    cases c with
    | true => simp only [decide_eq_true_eq]; exact ⟨l, h⟩
    | false => simp only [decide_eq_false_iff_not]; exact fun ⟨l', h'⟩ => by have := (h'.uniq h).2; cases this
theorem trl_is (hg : N.good = true) (hs : okP N s) : TrO N s (trl N s) (trc N s) := by
  obtain ⟨l, c, h⟩ := TrO.ex hg hs
  rw [h.eq.1, h.eq.2]
  exact h
theorem trc_of_open (hg : N.good = true) (hs : okP N s) (h : pairedB N s = false) : trc N s = false := by
  have h1 := trl_is hg hs
  cases hc : trc N s with
  | false => rfl
  | true =>
    rw [hc] at h1
    have := (nx_back hg h1.1.last h1.2).1
    rw [h] at this; cases this
end

/-! ### marks -/
def markE (N : NetD) (U : Int → Int → Bool) (p : Po) : Int → Int → Bool := setU (setU U p.1 p.2) (ep N p).1 (ep N p).2
def markL (N : NetD) (U : Int → Int → Bool) (l : List Po) : Int → Int → Bool := l.foldl (markE N) U
def at_ (U : Int → Int → Bool) (p : Po) : Bool := U p.1 p.2
theorem at_setU (U : Int → Int → Bool) (q p : Po) : at_ (setU U q.1 q.2) p = (decide (p = q) || at_ U p) := by
  unfold at_ setU
  congr 1
  rw [Bool.eq_iff_iff]
  simp
  constructor
  · rintro ⟨h1, h2⟩; exact Prod.ext (by omega) (by omega)
  · rintro rfl; exact ⟨rfl, rfl⟩
theorem at_markE (N : NetD) (U : Int → Int → Bool) (q p : Po) : at_ (markE N U q) p = true ↔ at_ U p = true ∨ p = q ∨ p = ep N q := by
  unfold markE
  rw [at_setU _ (ep N q), at_setU _ q]
  simp only [Bool.or_eq_true, decide_eq_true_eq]
  constructor
  · rintro (h | h | h)
    · exact .inr (.inr h)
    · exact .inr (.inl h)
    · exact .inl h
  · rintro (h | h | h)
    · exact .inr (.inr h)
    · exact .inr (.inl h)
    · exact .inl h
theorem at_markL (N : NetD) (p : Po) : ∀ (l : List Po) (U : Int → Int → Bool), at_ (markL N U l) p = true ↔ at_ U p = true ∨ ∃ q ∈ l, p = q ∨ p = ep N q
  | [], U => by simp [markL]
  | x :: l, U => by
    show at_ (markL N (markE N U x) l) p = true ↔ _
    rw [at_markL N p l, at_markE]
    simp only [List.mem_cons, exists_eq_or_imp, or_assoc]
theorem markL_snoc (N : NetD) (U : Int → Int → Bool) (l : List Po) (x : Po) : markL N U (l ++ [x]) = markE N (markL N U l) x := by simp [markL]
theorem markL_take (N : NetD) (U : Int → Int → Bool) (l : List Po) {k : Nat} (h : k < l.length) : markL N U (l.take (k + 1)) = markE N (markL N U (l.take k)) (nthP l k) := by
  rw [List.take_succ_eq_append_getElem h, markL_snoc, nthP_eq h]

/-- marked ports come with their edges' other ends and with their partners -/
def Cl (N : NetD) (U : Int → Int → Bool) : Prop := ∀ p, okP N p → at_ U p = true → at_ U (ep N p) = true ∧ (pairedB N p = true → at_ U (pi p) = true)
def NoOp (N : NetD) (U : Int → Int → Bool) : Prop := ∀ p, okP N p → pairedB N p = false → at_ U p = true
section
variable {N : NetD}
theorem Cl.mark (hg : N.good = true) {U : Int → Int → Bool} (h : Cl N U) {s : Po} {l : List Po} {c : Bool} (ht : TrO N s l c) (hs : c = true ∨ pairedB N s = false) : Cl N (markL N U l) := by
  intro p hp hU
  have hpos := ht.1.pos
  have M : ∀ {x : Po}, at_ (markL N U l) x = true ↔ at_ U x = true ∨ ∃ q ∈ l, x = q ∨ x = ep N q := fun {x} => at_markL N x l U
  rcases M.1 hU with h1 | ⟨q, hq, h1⟩
  · obtain ⟨a, b⟩ := h p hp h1
    exact ⟨M.2 (.inl a), fun hpb => M.2 (.inl (b hpb))⟩
  · have hqo := ht.1.ok q hq
    obtain ⟨i, hi, hqi⟩ := mem_nthP hq
    rcases h1 with rfl | rfl
    · refine ⟨M.2 (.inr ⟨p, hq, .inr rfl⟩), fun hpb => ?_⟩
      match i, hi, hqi with
      | 0, hi, hqi =>
        rw [ht.1.head] at hqi
        subst hqi
        rcases hs with rfl | hs
        · have := ht.2
          rw [if_pos rfl] at this
          rw [(nx_back hg ht.1.last this).2.1]
          exact M.2 (.inr ⟨lastP l, nthP_mem (by omega), .inr rfl⟩)
        · rw [hpb] at hs; cases hs
      | i + 1, hi, hqi =>
        have h2 := ht.1.link i hi
        rw [hqi] at h2
        have hio := ht.1.ok _ (nthP_mem (l := l) (i := i) (by omega))
        rw [(nx_back hg hio h2).2.1]
        exact M.2 (.inr ⟨nthP l i, nthP_mem (by omega), .inr rfl⟩)
    · refine ⟨by rw [(ep_ok hg hqo).2]; exact M.2 (.inr ⟨q, hq, .inl rfl⟩), fun hpb => ?_⟩
      have h2 := nx_yes hpb
      by_cases e : i + 1 < l.length
      · have h3 := ht.1.link i e
        rw [hqi, h2] at h3
        injection h3 with h3
        rw [h3]
        exact M.2 (.inr ⟨_, nthP_mem e, .inl rfl⟩)
      · obtain rfl : i = l.length - 1 := by omega
        have h3 := ht.2
        rw [show lastP l = q from hqi, h2] at h3
        split at h3
        · injection h3 with h3
          rw [h3, ← ht.1.head]
          exact M.2 (.inr ⟨_, nthP_mem hpos, .inl rfl⟩)
        · cases h3
/-- what is left unmarked behind the first pass lies on closed trails -/
theorem Cl.closed (hg : N.good = true) {U : Int → Int → Bool} (h : Cl N U) (hn : NoOp N U) {s : Po} (hs : okP N s) (hU : at_ U s = false) : pairedB N s = true ∧ trc N s = true := by
  have hp : pairedB N s = true := by
    cases hc : pairedB N s with
    | true => rfl
    | false => rw [hn s hs hc] at hU; cases hU
  refine ⟨hp, ?_⟩
  cases hc : trc N s with
  | true => rfl
  | false =>
    exfalso
    have ht := trl_is hg hs
    rw [hc] at ht
    generalize trl N s = l at ht
    have hpos := ht.1.pos
    have hlo := ht.1.last
    have h1 : pairedB N (ep N (lastP l)) = false := by
      cases hx : pairedB N (ep N (lastP l)) with
      | false => rfl
      | true => have := ht.2; rw [nx_yes hx] at this; cases this
    have h2 := hn _ (ep_ok hg hlo).1 h1
    have h3 := (h _ (ep_ok hg hlo).1 h2).1
    rw [(ep_ok hg hlo).2] at h3
    have back : ∀ k, k < l.length → at_ U (nthP l (l.length - 1 - k)) = true := by
      intro k
      induction k with
      | zero => intro _; exact h3
      | succ k ih =>
        intro hk
        have a := ih (by omega)
        have hlk := ht.1.link (l.length - 1 - (k + 1)) (by omega)
        rw [show l.length - 1 - (k + 1) + 1 = l.length - 1 - k by omega] at hlk
        have hko := ht.1.ok _ (nthP_mem (l := l) (i := l.length - 1 - (k + 1)) (by omega))
        obtain ⟨b1, b2, b3⟩ := nx_back hg hko hlk
        have hqo := ht.1.ok _ (nthP_mem (l := l) (i := l.length - 1 - k) (by omega))
        have c1 := (h _ hqo a).2 b1
        have c2 := (h _ (pi_ok hqo b1).1 c1).1
        rw [b3] at c2
        exact c2
    have := back (l.length - 1) (by omega)
    rw [Nat.sub_self, ht.1.head, hU] at this
    cases this
end

/-! ### the two passes -/
structure TSt where
  seen : Int → Int → Bool
  out : List (List Po)
noncomputable def addT (N : NetD) (σ : TSt) (p : Po) : TSt := ⟨markL N σ.seen (trl N p), σ.out ++ [trl N p]⟩
/-- second: the pass that takes what is left -/
def skipB (N : NetD) (second : Bool) (σ : TSt) (p : Po) : Bool := at_ σ.seen p || (!second && pairedB N p)
noncomputable def stepT (N : NetD) (second : Bool) (v m : Nat) (σ : TSt) : TSt := if skipB N second σ (v, m) = true then σ else addT N σ (v, m)
noncomputable def rowT (N : NetD) (second : Bool) (v : Nat) : Nat → TSt → TSt
  | 0, σ => σ
  | m + 1, σ => stepT N second v m (rowT N second v m σ)
noncomputable def passT (N : NetD) (second : Bool) : Nat → TSt → TSt
  | 0, σ => σ
  | k + 1, σ => rowT N second k (degAt N k) (passT N second k σ)
def t0 : TSt := ⟨fun _ _ => false, []⟩
def headP (l : List Po) : Po := nthP l 0
/-- what holds all along -/
structure TInv (N : NetD) (σ : TSt) : Prop where
  cl : Cl N σ.seen
  mem : ∀ l ∈ σ.out, ∃ s c, okP N s ∧ TrO N s l c
  nd : (σ.out.map headP).Nodup
  hs : ∀ l ∈ σ.out, at_ σ.seen (headP l) = true
section
variable {N : NetD}
theorem TInv.zero (N : NetD) : TInv N t0 := ⟨fun p _ h => (by cases h), fun l hl => (by cases hl), (by simp [t0]), fun l hl => (by cases hl)⟩
theorem seen_mono {σ : TSt} {p q : Po} (h : at_ σ.seen q = true) : at_ (addT N σ p).seen q = true := (at_markL N q _ _).2 (.inl h)
theorem TInv.add (hg : N.good = true) {σ : TSt} (h : TInv N σ) {p : Po} (hp : okP N p) (hU : at_ σ.seen p = false) (hc : trc N p = true ∨ pairedB N p = false) : TInv N (addT N σ p) := by
  have ht := trl_is hg hp
  have hh : headP (trl N p) = p := ht.1.head
  refine ⟨h.cl.mark hg ht hc, fun l hl => ?_, ?_, fun l hl => ?_⟩
  · rcases List.mem_append.1 hl with hl | hl
    · exact h.mem l hl
    · rw [List.mem_singleton.1 hl]; exact ⟨p, _, hp, ht⟩
  · show ((σ.out ++ [trl N p]).map headP).Nodup
    rw [List.map_append]
    refine List.nodup_append.2 ⟨h.nd, by simp, fun a ha b hb e => ?_⟩
    simp only [List.map_cons, List.map_nil, List.mem_singleton] at hb
    obtain ⟨l, hl, rfl⟩ := List.mem_map.1 ha
    have := h.hs l hl
    rw [e, hb, hh, hU] at this
    cases this
  · rcases List.mem_append.1 hl with hl | hl
    · exact seen_mono (h.hs l hl)
    · rw [List.mem_singleton.1 hl, hh]
      exact (at_markL N p _ _).2 (.inr ⟨p, by have := nthP_mem ht.1.pos; rw [ht.1.head] at this; exact this, .inl rfl⟩)
theorem skip_no {second : Bool} {σ : TSt} {p : Po} (h : skipB N second σ p = false) : at_ σ.seen p = false ∧ (second = false → pairedB N p = false) := by
  unfold skipB at h
  rw [Bool.or_eq_false_iff] at h
  exact ⟨h.1, fun e => by rw [e] at h; simpa using h.2⟩
theorem stepT_skip {second : Bool} {v m : Nat} {σ : TSt} (h : skipB N second σ (v, m) = true) : stepT N second v m σ = σ := by unfold stepT; rw [if_pos h]
theorem stepT_add {second : Bool} {v m : Nat} {σ : TSt} (h : skipB N second σ (v, m) = false) : stepT N second v m σ = addT N σ (v, m) := by unfold stepT; rw [if_neg (by rw [h]; simp)]
theorem step_mono {second : Bool} {v m : Nat} {σ : TSt} {q : Po} (h : at_ σ.seen q = true) : at_ (stepT N second v m σ).seen q = true := by
  unfold stepT
  split
  · exact h
  · exact seen_mono h
theorem row_mono {second : Bool} {v : Nat} {σ : TSt} {q : Po} (h : at_ σ.seen q = true) : ∀ m, at_ (rowT N second v m σ).seen q = true
  | 0 => h
  | m + 1 => step_mono (row_mono h m)
/-- the first pass -/
theorem first_step (hg : N.good = true) {v m : Nat} {σ : TSt} (hp : okP N (v, m)) (h : TInv N σ) : TInv N (stepT N false v m σ) ∧ (pairedB N (v, m) = false → at_ (stepT N false v m σ).seen (v, m) = true) := by
  cases hs : skipB N false σ (v, m) with
  | true =>
    rw [stepT_skip hs]
    refine ⟨h, fun e => ?_⟩
    unfold skipB at hs
    rw [e] at hs
    simpa using hs
  | false =>
    rw [stepT_add hs]
    obtain ⟨h1, h2⟩ := skip_no hs
    refine ⟨h.add hg hp h1 (.inr (h2 rfl)), fun _ => ?_⟩
    have ht := trl_is hg hp
    exact (at_markL N _ _ _).2 (.inr ⟨(v, m), by have := nthP_mem ht.1.pos; rw [ht.1.head] at this; exact this, .inl rfl⟩)
theorem first_row (hg : N.good = true) {v : Nat} (hv : v < N.ends.length) {σ : TSt} (h : TInv N σ) : ∀ m, m ≤ degAt N v → TInv N (rowT N false v m σ) ∧ ∀ i, i < m → pairedB N (v, i) = false → at_ (rowT N false v m σ).seen (v, i) = true
  | 0, _ => ⟨h, fun i hi => absurd hi (by omega)⟩
  | m + 1, hm => by
    obtain ⟨h1, h2⟩ := first_row hg hv h m (by omega)
    obtain ⟨h3, h4⟩ := first_step hg (v := v) (m := m) ⟨hv, hm⟩ h1
    refine ⟨h3, fun i hi e => ?_⟩
    by_cases e2 : i = m
    · subst e2; exact h4 e
    · exact step_mono (h2 i (by omega) e)
theorem first_pass (hg : N.good = true) : ∀ k, k ≤ N.ends.length → TInv N (passT N false k t0) ∧ ∀ p : Po, okP N p → p.1 < k → pairedB N p = false → at_ (passT N false k t0).seen p = true
  | 0, _ => ⟨TInv.zero N, fun p _ hp => absurd hp (by omega)⟩
  | k + 1, hk => by
    obtain ⟨h1, h2⟩ := first_pass hg k (by omega)
    obtain ⟨h3, h4⟩ := first_row hg (v := k) (by omega) h1 (degAt N k) (Nat.le_refl _)
    refine ⟨h3, fun p hp hpk e => ?_⟩
    by_cases e2 : p.1 = k
    · obtain ⟨a, b⟩ := p
      dsimp only at e2
      subst e2
      exact h4 b hp.2 e
    · exact row_mono (h2 p hp (by omega) e) _
/-- the state behind the first pass -/
noncomputable def t1 (N : NetD) : TSt := passT N false N.ends.length t0
structure TInv2 (N : NetD) (σ : TSt) : Prop where
  inv : TInv N σ
  no : NoOp N σ.seen
theorem second_start (hg : N.good = true) : TInv2 N (t1 N) := ⟨(first_pass hg _ (Nat.le_refl _)).1, fun p hp e => (first_pass hg _ (Nat.le_refl _)).2 p hp hp.1 e⟩
theorem TInv2.left (hg : N.good = true) {σ : TSt} (h : TInv2 N σ) {p : Po} (hp : okP N p) (hU : at_ σ.seen p = false) : pairedB N p = true ∧ trc N p = true := h.inv.cl.closed hg h.no hp hU
theorem second_step (hg : N.good = true) {v m : Nat} {σ : TSt} (hp : okP N (v, m)) (h : TInv2 N σ) : TInv2 N (stepT N true v m σ) := by
  refine ⟨?_, fun p hp e => step_mono (h.no p hp e)⟩
  cases hs : skipB N true σ (v, m) with
  | true => rw [stepT_skip hs]; exact h.inv
  | false =>
    rw [stepT_add hs]
    obtain ⟨h1, _⟩ := skip_no hs
    exact h.inv.add hg hp h1 (.inl (h.left hg hp h1).2)
theorem second_row (hg : N.good = true) {v : Nat} (hv : v < N.ends.length) {σ : TSt} (h : TInv2 N σ) : ∀ m, m ≤ degAt N v → TInv2 N (rowT N true v m σ)
  | 0, _ => h
  | m + 1, hm => second_step hg (v := v) (m := m) ⟨hv, hm⟩ (second_row hg hv h m (by omega))
theorem second_pass (hg : N.good = true) : ∀ k, k ≤ N.ends.length → TInv2 N (passT N true k (t1 N))
  | 0, _ => second_start hg
  | k + 1, hk => second_row hg (by omega) (second_pass hg k (by omega)) _ (Nat.le_refl _)
/-- how many trails -/
theorem step_len (second : Bool) (v m : Nat) (σ : TSt) : (stepT N second v m σ).out.length ≤ σ.out.length + 1 := by
  unfold stepT
  split
  · omega
  · simp [addT]
theorem row_len (second : Bool) (v : Nat) (σ : TSt) : ∀ m, (rowT N second v m σ).out.length ≤ σ.out.length + m
  | 0 => Nat.le_refl _
  | m + 1 => by have := step_len (N := N) second v m (rowT N second v m σ); have := row_len second v σ m; show (stepT N second v m _).out.length ≤ _; omega
theorem TInv.len (hg : N.good = true) {σ : TSt} (h : TInv N σ) : σ.out.length ≤ 240 := by
  have h1 := subLen (σ.out.map headP) grid h.nd (fun p hp => by
    obtain ⟨l, hl, rfl⟩ := List.mem_map.1 hp
    obtain ⟨s, c, hs, ht⟩ := h.mem l hl
    have e : headP l = s := ht.1.head
    rw [e]
    have := (good_n hg).2
    have := good_deg hg hs.1
    have h1 := hs.1
    have := hs.2
    unfold degAt at this
    exact mem_grid (by omega) (by omega))
  rwa [grid_len, List.length_map] at h1
/-- the trails, in the order in which they are found -/
noncomputable def found (N : NetD) : List (List Po) := (passT N true N.ends.length (t1 N)).out
theorem found_inv (hg : N.good = true) : TInv N (passT N true N.ends.length (t1 N)) := (second_pass hg _ (Nat.le_refl _)).inv
theorem found_ch (hg : N.good = true) {l : List Po} (hl : l ∈ found N) : ∃ s, okP N s ∧ Ch N s l := by
  obtain ⟨s, c, hs, ht⟩ := (found_inv hg).mem l hl
  exact ⟨s, hs, ht.1⟩
end

end Go.Proofs.Ytmdlginjblnfoaa

/- Plain: trails that begin at different ports, sorted by where they begin: an insertion sort's result is the one sorted permutation. No condition on any program. -/
namespace Go.Proofs.Ytmdlginjblnfoaa
set_option linter.unusedVariables false

def keyP (p : Po) : Nat := p.1 * 8 + p.2
def keyL (l : List Po) : Nat := keyP (headP l)
theorem keyP_inj {N : NetD} (hg : N.good = true) {p q : Po} (hp : okP N p) (hq : okP N q) (e : keyP p = keyP q) : p = q := by
  have h1 := good_deg hg hp.1
  have h2 := good_deg hg hq.1
  have h3 := hp.2
  have h4 := hq.2
  unfold degAt at h3 h4
  unfold keyP at e
  exact Prod.ext (by omega) (by omega)
def nthT (l : List (List Po)) (i : Nat) : List Po := l.getD i []
theorem nthT_eq {l : List (List Po)} {i : Nat} (h : i < l.length) : nthT l i = l[i] := by simp [nthT, h]
/-- behind which element x goes, among the first k -/
def posK (out : List (List Po)) (x : Nat) : Nat → Nat
  | 0 => 0
  | k + 1 => if x < keyL (nthT out k) then posK out x k else k + 1
theorem posK_le (out : List (List Po)) (x : Nat) : ∀ k, posK out x k ≤ k
  | 0 => Nat.le_refl _
  | k + 1 => by unfold posK; split; have := posK_le out x k; omega; exact Nat.le_refl _
theorem posK_lo (out : List (List Po)) (x : Nat) : ∀ k, 0 < posK out x k → keyL (nthT out (posK out x k - 1)) ≤ x
  | 0, h => absurd h (by simp [posK])
  | k + 1, h => by
    by_cases e : x < keyL (nthT out k)
    · have e1 : posK out x (k + 1) = posK out x k := by rw [posK, if_pos e]
      rw [e1] at h ⊢
      exact posK_lo out x k h
    · have e1 : posK out x (k + 1) = k + 1 := by rw [posK, if_neg e]
      rw [e1]
      simp only [Nat.add_sub_cancel]
      omega
theorem posK_hi (out : List (List Po)) (x : Nat) : ∀ k j, posK out x k ≤ j → j < k → x < keyL (nthT out j)
  | 0, j, _, h => absurd h (by omega)
  | k + 1, j, h1, h2 => by
    by_cases e : x < keyL (nthT out k)
    · have e1 : posK out x (k + 1) = posK out x k := by rw [posK, if_pos e]
      rw [e1] at h1
      by_cases e2 : j = k
      · rw [e2]; exact e
      · exact posK_hi out x k j h1 (by omega)
    · have e1 : posK out x (k + 1) = k + 1 := by rw [posK, if_neg e]
      omega
def posT (out : List (List Po)) (x : List Po) : Nat := posK out (keyL x) out.length
def insT (out : List (List Po)) (x : List Po) : List (List Po) := out.take (posT out x) ++ [x] ++ out.drop (posT out x)
def srt (l : List (List Po)) : List (List Po) := l.foldl insT []
def srtK (l : List (List Po)) (k : Nat) : List (List Po) := srt (l.take k)
theorem srtK_succ {l : List (List Po)} {k : Nat} (h : k < l.length) : srtK l (k + 1) = insT (srtK l k) (nthT l k) := by
  unfold srtK srt
  rw [List.take_succ_eq_append_getElem h, List.foldl_append, nthT_eq h]
  rfl
theorem insT_perm (out : List (List Po)) (x : List Po) : (insT out x).Perm (out ++ [x]) := by
  unfold insT
  generalize posT out x = k
  have h1 : (out.take k ++ [x] ++ out.drop k).Perm (out.take k ++ (out.drop k ++ [x])) := by
    rw [List.append_assoc]
    exact List.Perm.append_left _ List.perm_append_comm
  rwa [← List.append_assoc, List.take_append_drop] at h1
theorem srt_perm (l : List (List Po)) : (srt l).Perm l := by
  suffices h : ∀ (l out : List (List Po)), (l.foldl insT out).Perm (out ++ l) from h l []
  intro l
  induction l with
  | nil => intro out; simp
  | cons x l ih =>
    intro out
    show (l.foldl insT (insT out x)).Perm _
    refine (ih _).trans ?_
    have := (insT_perm out x).append_right l
    rwa [List.append_assoc] at this
def LeT (l : List (List Po)) : Prop := l.Pairwise fun a b => keyL a ≤ keyL b
theorem insT_le {out : List (List Po)} (h : LeT out) (x : List Po) : LeT (insT out x) := by
  have hp := posK_le out (keyL x) out.length
  have lo : ∀ a ∈ out.take (posT out x), keyL a ≤ keyL x := fun a ha => by
    obtain ⟨i, hi, e⟩ := List.mem_iff_getElem.1 ha
    rw [List.getElem_take] at e
    have hi2 : i < posT out x := by rw [List.length_take] at hi; omega
    have hl : posT out x ≤ out.length := hp
    have h1 := posK_lo out (keyL x) out.length (by show 0 < posT out x; omega)
    rw [show posK out (keyL x) out.length = posT out x from rfl, nthT_eq (by omega)] at h1
    rw [← e]
    by_cases e2 : i = posT out x - 1
    · subst e2; exact h1
    · exact Nat.le_trans (List.pairwise_iff_getElem.1 h i (posT out x - 1) (by omega) (by omega) (by omega)) h1
  have hi' : ∀ b ∈ out.drop (posT out x), keyL x ≤ keyL b := fun b hb => by
    obtain ⟨i, hi, e⟩ := List.mem_iff_getElem.1 hb
    rw [List.getElem_drop] at e
    rw [List.length_drop] at hi
    have h1 := posK_hi out (keyL x) out.length (posT out x + i) (by show posT out x ≤ _; omega) (by omega)
    rw [nthT_eq (by omega)] at h1
    rw [← e]
    omega
  unfold LeT insT
  rw [List.append_assoc, List.pairwise_append]
  refine ⟨List.Pairwise.sublist (List.take_sublist _ _) h, ?_, fun a ha b hb => ?_⟩
  · show (x :: out.drop (posT out x)).Pairwise _
    rw [List.pairwise_cons]
    exact ⟨hi', List.Pairwise.sublist (List.drop_sublist _ _) h⟩
  · rcases List.mem_append.1 hb with hb | hb
    · rw [List.mem_singleton.1 hb]; exact lo a ha
    · exact Nat.le_trans (lo a ha) (hi' b hb)
theorem srt_le (l : List (List Po)) : LeT (srt l) := by
  suffices h : ∀ (l out : List (List Po)), LeT out → LeT (l.foldl insT out) from h l [] List.Pairwise.nil
  intro l
  induction l with
  | nil => intro out h; exact h
  | cons x l ih => intro out h; exact ih _ (insT_le h x)
def LtT (l : List (List Po)) : Prop := l.Pairwise fun a b => keyL a < keyL b
theorem lt_of_le {l : List (List Po)} (h : LeT l) (hn : (l.map keyL).Nodup) : LtT l := by
  unfold LtT
  unfold List.Nodup at hn
  rw [List.pairwise_map] at hn
  exact List.Pairwise.imp₂ (fun a b h1 h2 => by omega) h hn
theorem sorted_eq : ∀ (a b : List (List Po)), LtT a → LtT b → a.Perm b → a = b
  | [], b, _, _, h => by rw [List.nil_perm.1 h]
  | x :: a, [], _, _, h => by have := h.length_eq; simp at this
  | x :: a, y :: b, ha, hb, h => by
    unfold LtT at ha hb
    rw [List.pairwise_cons] at ha hb
    have hx : x ∈ y :: b := h.subset (List.mem_cons_self ..)
    have hy : y ∈ x :: a := h.symm.subset (List.mem_cons_self ..)
    have e : x = y := by
      rcases List.mem_cons.1 hx with e | e
      · exact e
      · rcases List.mem_cons.1 hy with e2 | e2
        · exact e2.symm
        · have := hb.1 x e; have := ha.1 y e2; omega
    subst e
    rw [sorted_eq a b ha.2 hb.2 (List.Perm.cons_inv h)]
theorem srt_unique {l l' : List (List Po)} (hn : (l.map keyL).Nodup) (hp : l'.Perm l) (hs : LtT l') : l' = srt l :=
  sorted_eq _ _ hs (lt_of_le (srt_le l) ((srt_perm l).map keyL |>.nodup_iff.2 hn)) (hp.trans (srt_perm l).symm)

/-- the trails of a network, in order -/
noncomputable def trails (N : NetD) : List (List Po) := srt (found N)
section
variable {N : NetD}
theorem found_keys (hg : N.good = true) : ((found N).map keyL).Nodup := by
  have h := (found_inv hg).nd
  show (List.map (fun l => keyP (headP l)) (found N)).Nodup
  have e : List.map (fun l => keyP (headP l)) (found N) = ((found N).map headP).map keyP := by rw [List.map_map]; rfl
  rw [e]
  unfold List.Nodup
  rw [List.pairwise_map]
  have hok : ∀ p ∈ (found N).map headP, okP N p := fun p hp => by
    obtain ⟨l, hl, rfl⟩ := List.mem_map.1 hp
    obtain ⟨s, hs, hc⟩ := found_ch hg hl
    rw [show headP l = s from hc.head]; exact hs
  refine List.Pairwise.imp_of_mem (fun {a b} ha hb hne e => hne (keyP_inj hg (hok a ha) (hok b hb) e)) h
theorem trails_mem {l : List Po} : l ∈ trails N ↔ l ∈ found N := (srt_perm _).mem_iff
theorem trails_ch (hg : N.good = true) {l : List Po} (hl : l ∈ trails N) : ∃ s, okP N s ∧ Ch N s l := found_ch hg (trails_mem.1 hl)
theorem trails_len (hg : N.good = true) : (trails N).length ≤ 240 := by
  unfold trails
  rw [(srt_perm _).length_eq]
  exact (found_inv hg).len hg
end

/-- ends as numbers -/
def castP (p : Po) : Int × Int := ((p.1 : Int), (p.2 : Int))
def castL (l : List Po) : List (Int × Int) := l.map castP
/-- the nodes and ports of a trail, as one list of numbers -/
def numsP : List Po → List Int
  | [] => []
  | p :: l => (p.1 : Int) :: (p.2 : Int) :: numsP l
theorem numsP_snoc : ∀ (l : List Po) (p : Po), numsP (l ++ [p]) = numsP l ++ [(p.1 : Int), (p.2 : Int)]
  | [], p => rfl
  | x :: l, p => by show _ :: _ :: numsP (l ++ [p]) = _; rw [numsP_snoc l p]; rfl
theorem numsP_length : ∀ l : List Po, (numsP l).length = 2 * l.length
  | [] => rfl
  | x :: l => by simp only [numsP, List.length_cons]; rw [numsP_length l]; omega
theorem nth_numsP : ∀ (l : List Po) (i : Nat), i < l.length → nth (numsP l) (2 * i) = ((nthP l i).1 : Int) ∧ nth (numsP l) (2 * i + 1) = ((nthP l i).2 : Int)
  | x :: l, 0, _ => ⟨rfl, rfl⟩
  | x :: l, i + 1, h => by
    have := nth_numsP l i (by simpa using h)
    rw [show 2 * (i + 1) = 2 * i + 1 + 1 by omega]
    exact this
theorem castL_length (l : List Po) : (castL l).length = l.length := by simp [castL]
theorem nthE_castL {l : List Po} {i : Nat} (h : i < l.length) : nthE (castL l) i = (((nthP l i).1 : Int), ((nthP l i).2 : Int)) := by
  simp [nthE, castL, castP, nthP, h]
theorem numsP_take {l : List Po} {k : Nat} (h : k < l.length) : numsP (l.take (k + 1)) = numsP (l.take k) ++ [((nthP l k).1 : Int), ((nthP l k).2 : Int)] := by
  rw [List.take_succ_eq_append_getElem h, numsP_snoc, nthP_eq h]
theorem castL_snoc (l : List Po) (p : Po) : castL (l ++ [p]) = castL l ++ [castP p] := by simp [castL]

end Go.Proofs.Ytmdlginjblnfoaa

/- Memory of the token's walk: a map of ends to bools of the call's own; what a step may turn. No condition on any program. -/
namespace Go.Proofs.Ytmdlginjblnfoaa
open Go.ChangeShapes Go.WideShapes Go.ChangeAt Go.RowKit
set_option linter.unusedVariables false

theorem Try.laidB : laidOutB Try.prog = true := by kernel_rfl
theorem Try.keyLawE : WideMaps.KeyLaw Try.prog 56 :=
  deep_law_gate Try.laidB (of_decide_eq_true (by kernel_rfl)) (of_decide_eq_true (by kernel_rfl)) (by kernel_rfl) (by rw [Try.underlying56])
theorem Try.keyedE : Maps.Keyed Try.prog 56 := Maps.Keyed.of_law Try.keyLawE
theorem Try.zeroB (w : World) : (zeroValue 4).run Try.prog w = .ok (.bool false) w := by kernel_rfl
theorem Try.sizeT : ∃ d, Try.prog.types.size = d + 1 := ⟨Try.prog.types.size - 1, by have : 0 < Try.prog.types.size := of_decide_eq_true (by kernel_rfl); omega⟩
theorem wfI {x : Int} (h : I64 x) : (Lit.int .i64 x).wf = true := by unfold I64 at h; simp [Lit.wf, IntKind.min, IntKind.max, IntKind.signed, IntKind.bits]; omega
/-- the literal of an end as a key -/
def kl (x y : Int) : Lit := .string (keyBytes [.int .i64 x, .int .i64 y])
theorem klE {x y : Int} (hx : I64 x) (hy : I64 y) : Try.prog.keyLits (Try.prog.types.size + 1) 56 [.int .i64 x, .int .i64 y] = some [.int .i64 x, .int .i64 y] := by
  obtain ⟨d, hd⟩ := Try.sizeT
  have h2 : Try.prog.cellsOf 56 = 2 := by kernel_rfl
  have h1 : Try.prog.cellsOf 3 = 1 := by kernel_rfl
  rw [hd]
  unfold Program.keyLits
  rw [Try.underlying56]
  simp [h2, h1, Program.keyLits, Try.underlying3, wfI hx, wfI hy]
theorem keyE {x y : Int} (hx : I64 x) (hy : I64 y) : keyOf Try.prog 56 (.agg #[.int .i64 x, .int .i64 y]) = some (kl x y) := by
  have h0 : Try.prog.keyType 56 = true := by kernel_rfl
  have h2 : Try.prog.cellsOf 56 = 2 := by kernel_rfl
  unfold keyOf
  rw [Try.underlying56]
  have hf : (Value.agg #[.int .i64 x, .int .i64 y]).formed Try.prog 56 = true := by simp [Value.formed, Try.underlying56, h2]
  have := klE hx hy
  simp only [h0, hf, Bool.and_self, if_true]
  rw [show (Value.agg #[Value.int IntKind.i64 x, Value.int IntKind.i64 y]).cells.toList = [.int .i64 x, .int .i64 y] from rfl, this]
  rfl
theorem kl_inj {x y a b : Int} (hx : I64 x) (hy : I64 y) (ha : I64 a) (hb : I64 b) (h : kl x y = kl a b) : x = a ∧ y = b := by
  unfold kl at h
  injection h with h
  have := keyLits_inj (klE hx hy) (klE ha hb) h
  simpa using this

set_option maxRecDepth 100000 in
theorem plainElem_bool_inv {v : Value} {c : Bool} {ps : List MemPlace} (h : plainElem (H := Unit) Try.prog 4 v = some (.lit (.bool c), ps)) : v = .bool c := by
  unfold plainElem at h
  rw [Try.underlying4] at h
  cases v <;> simp at h
  rw [h.1]
/-- block b is a map that reads as U; it has at most m entries -/
def MpT (w : World) (b : Nat) (U : Int → Int → Bool) (m : Nat) : Prop :=
  ∃ (n : Nat) (D : DataW Unit), n ≤ m ∧ w.ownsMap Try.prog 56 (plainElem Try.prog 4) b n D ∧ Maps.IsMap D ∧ ∀ x y, I64 x → I64 y → D.atKey (kl x y) (.lit (.bool false)) = .lit (.bool (U x y))
section
variable {w w' : World} {b m : Nat} {U : Int → Int → Bool}
theorem MpT.new (w : World) : MpT (w.alloc (.map #[] 0)) w.heap.size (fun _ _ => false) 0 :=
  ⟨0, .map [], Nat.le_refl _, World.ownsMap_made _ _ _ _, Maps.isMap_empty, fun x y _ _ => rfl⟩
theorem MpT.lt (h : MpT w b U m) : b < w.heap.size := let ⟨_, _, _, h, _⟩ := h; h.lt
theorem MpT.mono (h : MpT w b U m) {m' : Nat} (hm : m ≤ m') : MpT w b U m' := let ⟨n, D, h1, h2⟩ := h; ⟨n, D, by omega, h2⟩
theorem MpT.kept {row : Option Nat} (h : MpT w b U m) (hg : w.grownBy w' row) (hr : some b ≠ row) : MpT w' b U m := let ⟨n, D, h1, h2, h3⟩ := h; ⟨n, D, h1, h2.kept hg hr, h3⟩
end

/-- what the walk may turn: blocks from B on and below base, and the moves' own row; v, v' the moves' slices -/
structure Fr (B base : Nat) (w : World) (v : Value) (w' : World) (v' : Value) : Prop where
  os : w'.os = w.os
  tape : w'.tape = w.tape
  output : w'.output = w.output
  size : w.heap.size ≤ w'.heap.size
  block : ∀ k, k < w.heap.size → (k < B ∨ base ≤ k) → v.ownBlock ≠ some k → w'.heap[k]? = w.heap[k]?
  own : ∀ k, v'.ownBlock = some k → v.ownBlock = some k ∨ w.heap.size ≤ k
section
variable {B base : Nat} {w w1 w' : World} {v v1 v' : Value}
theorem Fr.refl (B base : Nat) (w : World) (v : Value) : Fr B base w v w v := ⟨rfl, rfl, rfl, Nat.le_refl _, fun _ _ _ _ => rfl, fun _ h => .inl h⟩
theorem Fr.trans (h : Fr B base w v w1 v1) (k : Fr B base w1 v1 w' v') : Fr B base w v w' v' :=
  ⟨k.os.trans h.os, k.tape.trans h.tape, k.output.trans h.output, Nat.le_trans h.size k.size,
    fun i hi ho hv => (k.block i (Nat.lt_of_lt_of_le hi h.size) ho (fun e => by rcases h.own i e with e | e; exact hv e; omega)).trans (h.block i hi ho hv),
    fun i hi => by rcases k.own i hi with e | e; exact h.own i e; right; exact Nat.le_trans h.size e⟩
theorem Fr.below {b : Nat} (h : Fr B base w v w' v') (hv : ∀ k, v.ownBlock = some k → b ≤ k) (h1 : b ≤ B) (hb : b ≤ w.heap.size) : Below b w w' :=
  ⟨h.os, h.tape, h.output, h.size, fun k hk => h.block k (by omega) (.inl (by omega)) (fun e => by have := hv k e; omega)⟩
theorem Fr.still (hg : w.grownBy w' none) : Fr B base w v w' v := ⟨hg.os, hg.tape, hg.output, hg.size, fun k hk _ _ => hg.block k hk (by simp), fun _ h => .inl h⟩
theorem Fr.turn {r : Nat} (hg : w.grownBy w' (some r)) (h1 : B ≤ r) (h2 : r < base) : Fr B base w v w' v :=
  ⟨hg.os, hg.tape, hg.output, hg.size, fun k hk ho _ => hg.block k hk (fun e => by injection e; omega), fun _ h => .inl h⟩
theorem Fr.row (hg : w.grownBy w' v.ownBlock) (ho : v'.ownBlock = v.ownBlock ∨ ∃ k, v'.ownBlock = some k ∧ w.heap.size ≤ k) : Fr B base w v w' v' :=
  ⟨hg.os, hg.tape, hg.output, hg.size, fun k hk _ hv => hg.block k hk (fun e => hv e.symm), fun k hk => by
    rcases ho with e | ⟨i, e, hi⟩
    · left; rw [← e]; exact hk
    · right; rw [e] at hk; injection hk with hk; omega⟩
theorem Fr.box {g : Nat} {cs : Array Value} {t : TypeId} (h : Fr B base w v w' v') (hb : BoxN w g cs t) (hg : g < B ∨ base ≤ g) (hv : v.ownBlock ≠ some g) : BoxN w' g cs t := (h.block g hb.lt hg hv).trans hb
end
theorem OwnSS.far {w w' : World} {base top : Nat} {e : TypeId} {v : Value} {xss : List (List Int)} {row : Option Nat} (h : OwnSS w base top e v xss) (hg : w.grownBy w' row) (hr : ∀ g, row = some g → g < base) : OwnSS w' base top e v xss := by
  obtain ⟨vs, lo, hi, h1, h2, h3, h4, h5, h6⟩ := h
  refine ⟨vs, lo, hi, h1, h2.kept hg ?_, h3, Nat.le_trans h4 hg.size, fun j hj => ?_, h6⟩
  · cases hv : v.ownBlock with
    | none => exact .inl rfl
    | some g =>
      right
      intro e
      have := (h2.lt g hv).1
      have := hr g e.symm
      omega
  · obtain ⟨u, a1, a2, a3, a4, a5⟩ := h5 j hj
    exact ⟨u, a1, a2, a3, a4.far hg (by omega) (fun g e => .inl (by have := hr g e; omega)), a5⟩

end Go.Proofs.Ytmdlginjblnfoaa

/- A slice of slices of ends that the call owns and appends rows to. No condition on any program. -/
namespace Go.Proofs.Ytmdlginjblnfoaa
open Go.RowKit

/-- v is a slice of slices that reads as xss; its own row lies from block base on; its rows lie one behind the other, from base on and below top -/
def OwnES (w : World) (base top : Nat) (e : TypeId) (v : Value) (xss : List (List (Int × Int))) : Prop :=
  ∃ (vs : List Value) (lo hi : Nat → Nat), vs.length = xss.length ∧ Own w base e v vs ∧ base ≤ top ∧ top ≤ w.heap.size ∧
    (∀ j, j < xss.length → ∃ u, vs[j]? = some u ∧ base ≤ lo j ∧ hi j ≤ top ∧ EndS w (lo j) (hi j) u (nthL xss j) ∧ ∀ g, v.ownBlock = some g → g < lo j ∨ hi j ≤ g) ∧
    ∀ i j, i < j → j < xss.length → hi i ≤ lo j


section
variable {w w' : World} {base top : Nat} {e : TypeId} {v : Value} {xss : List (List (Int × Int))}
theorem OwnES.nil (w : World) (base top : Nat) (e : TypeId) (h1 : base ≤ top) (h2 : top ≤ w.heap.size) : OwnES w base top e (.slice none 0 0) [] :=
  ⟨[], fun _ => 0, fun _ => 0, rfl, Own.nil _ _ _, h1, h2, fun j hj => absurd hj (by simp), fun i j _ hj => absurd hj (by simp)⟩
theorem OwnES.below (h : OwnES w base top e v xss) (hb : Below w.heap.size w w') : OwnES w' base top e v xss := by
  obtain ⟨vs, lo, hi, h1, h2, h3, h4, h5, h6⟩ := h
  refine ⟨vs, lo, hi, h1, h2.kept (row := none) ⟨hb.os, hb.tape, hb.output, hb.size, fun k hk _ => hb.block k hk⟩ (by cases hv : v.ownBlock with
    | none => exact .inl rfl
    | some g => right; simp), h3, Nat.le_trans h4 hb.size, fun j hj => ?_, h6⟩
  obtain ⟨u, a1, a2, a3, a4, a5⟩ := h5 j hj
  exact ⟨u, a1, a2, a3, a4.below hb (by omega), a5⟩
theorem OwnES.alloc (h : OwnES w base top e v xss) (o : Obj) : OwnES (w.alloc o) base top e v xss := h.below ((Below.refl _ _).alloc (Nat.le_refl _) o)
theorem OwnES.drew (h : OwnES w base top e v xss) : OwnES w.drew base top e v xss := h
theorem OwnES.drewN (h : OwnES w base top e v xss) (k : Nat) : OwnES (w.drewN k) base top e v xss := h
theorem OwnES.len (h : OwnES w base top e v xss) : ∃ A c, v = .slice A xss.length c ∧ xss.length ≤ c ∧ c ≤ maxLen := by
  obtain ⟨vs, lo, hi, h1, h2, _⟩ := h
  obtain ⟨A, c, e, a1, a2, _⟩ := h2.form
  exact ⟨A, c, by rw [e, h1], by omega, a2⟩
theorem OwnES.lt (h : OwnES w base top e v xss) : ∀ k, v.ownBlock = some k → base ≤ k ∧ k < w.heap.size := by
  obtain ⟨vs, lo, hi, h1, h2, _⟩ := h
  exact h2.lt
theorem OwnES.mono (h : OwnES w base top e v xss) {top' : Nat} (h1 : top ≤ top') (h2 : top' ≤ w.heap.size) : OwnES w base top' e v xss := by
  obtain ⟨vs, lo, hi, a1, a2, a3, a4, a5, a6⟩ := h
  refine ⟨vs, lo, hi, a1, a2, by omega, h2, fun j hj => ?_, a6⟩
  obtain ⟨u, b1, b2, b3, b4, b5⟩ := a5 j hj
  exact ⟨u, b1, b2, by omega, b4, b5⟩
theorem OwnES.ssx (h : OwnES w base top e v xss) : EndSSx w base w.heap.size v xss := by
  obtain ⟨vs, lo, hi, h1, h2, h3, h4, h5, h6⟩ := h
  have hsl : Sl w base w.heap.size 1 v xss.length (fun j => vs.getD j undef) := by
    have := Sl.of_own (f := fun j => vs.getD j undef) h2 (fun j hj => by simp at hj; simp [hj])
    rwa [h1] at this
  have hr : ∀ j, j < xss.length → EndS w (lo j) (hi j) (vs.getD j undef) (nthL xss j) ∧ base ≤ lo j ∧ hi j ≤ top ∧ ∀ g, v.ownBlock = some g → g < lo j ∨ hi j ≤ g := fun j hj => by
    obtain ⟨u, a1, a2, a3, a4, a5⟩ := h5 j hj
    have : vs.getD j undef = u := by simp [a1]
    rw [this]
    exact ⟨a4, a2, a3, a5⟩
  refine ⟨fun j => vs.getD j undef, hsl, fun i hi' => (hr i hi').1.mono (hr i hi').2.1 (by have := (hr i hi').2.2.1; omega), fun i j hij hj => ?_, fun i hi' => ?_⟩
  · obtain ⟨a1, _⟩ := hr i (by omega)
    obtain ⟨b1, _⟩ := hr j hj
    rcases Sl.row a1 with e1 | ⟨g1, e1, c1, c2⟩
    · exact .inl e1
    · right
      rw [e1]
      rcases Sl.row b1 with e2 | ⟨g2, e2, d1, d2⟩
      · rw [e2]; simp
      · rw [e2]; intro e3; injection e3 with e3; have := h6 i j hij hj; omega
  · obtain ⟨a1, _, _, a2⟩ := hr i hi'
    rcases Sl.row a1 with e1 | ⟨g1, e1, c1, c2⟩
    · exact .inl e1
    · right
      rw [e1]
      unfold rowOf
      rw [if_neg (by omega)]
      intro e3
      have := a2 g1 e3.symm
      omega
end

/-- append of one row onto a slice of slices of the call's own, the row's slice just laid in a block of its own -/
theorem append_es {P : Program} {ops : Array Oper} {rest : List Oper} {o : Oper} {a : Act} {Q : Exit → Act → World → Prop} {t e : TypeId} {bytes : Nat}
    (ht : P.underlying t = some (.slice e)) (hinfo : (P.info? e).map (fun i => (i.zero, i.size, i.bytes)) = some (some (.slice none 0 0), 1, bytes)) (hby : bytes ≤ 64)
    (w : World) (hgd : o.guard = none) {s : Operand} (x : Operand) (ho : o.op = .call { callee := .builtin .append, args := #[s, x], argTypes := #[t, t] })
    {base top : Nat} {v : Value} {xss : List (List (Int × Int))} (hown : OwnES w base top e v xss) {u : Value} {xs : List (Int × Int)} {lo hi : Nat} (hu : EndS w lo hi u xs) (hlo : top ≤ lo) (hhi : hi ≤ w.heap.size) (hlh : lo ≤ hi) (hfar : ∀ g, v.ownBlock = some g → g < lo ∨ hi ≤ g)
    (te : TypeId) (hs : a.eval s = v) (hx : a.eval x = .slice (some ⟨w.heap.size, 0, none⟩) 1 1) (hlen : xss.length < 1099511627776)
    (h : ∀ v' w', OwnES w' base hi e v' (xss ++ [xs]) → w.grownBy w' v.ownBlock → (v'.ownBlock = v.ownBlock ∨ v'.ownBlock = some (w.heap.size + 1)) → wpList P ops Q rest (a.put o.dst v') w') :
    wpList P ops Q (o :: rest) a (w.alloc (.cells #[u] te)) := by
  obtain ⟨vs, los, his, h1, h2, h3, h4, h5, h6⟩ := hown
  obtain ⟨A, c, rfl⟩ := (show ∃ A c, u = .slice A xs.length c from let ⟨A, c, e, _⟩ := hu; ⟨A, c, e⟩)
  refine append1 ht hinfo rfl hby w hgd x ho h2 _ te hs hx rfl (by omega) (by omega) fun v' w' ho' hg' hat' => h v' w' ?_ hg' hat'
  have hgs := hg'.size
  have hold : ∀ j, j < xss.length → ∃ u, vs[j]? = some u ∧ base ≤ los j ∧ his j ≤ top ∧ EndS w' (los j) (his j) u (nthL xss j) ∧ ∀ g, v'.ownBlock = some g → g < los j ∨ his j ≤ g := fun j hj => by
    obtain ⟨u, a1, a2, a3, a4, a5⟩ := h5 j hj
    refine ⟨u, a1, a2, a3, a4.far hg' (by omega) a5, fun g hg => ?_⟩
    rcases hat' with e1 | e1
    · exact a5 g (by rw [← e1]; exact hg)
    · rw [e1] at hg; injection hg with hg; omega
  refine ⟨vs ++ [.slice A xs.length c], fun j => if j < xss.length then los j else lo, fun j => if j < xss.length then his j else hi, by simp [h1], ho', by omega, by omega, fun j hj => ?_, fun i j hij hj => ?_⟩
  · dsimp only
    by_cases e1 : j < xss.length
    · obtain ⟨u, a1, a2, a3, a4, a5⟩ := hold j e1
      rw [if_pos e1, if_pos e1, nthL_append_left e1]
      exact ⟨u, by rw [List.getElem?_append_left (by omega)]; exact a1, a2, by omega, a4, a5⟩
    · obtain rfl : j = xss.length := by simp at hj; omega
      rw [if_neg e1, if_neg e1, nthL_append_at]
      refine ⟨.slice A xs.length c, by rw [← h1]; simp, by omega, Nat.le_refl _, hu.far hg' hhi hfar, fun g hg => ?_⟩
      rcases hat' with e2 | e2
      · exact hfar g (by rw [← e2]; exact hg)
      · rw [e2] at hg; injection hg with hg; omega
  · dsimp only
    rw [if_pos (by simp at hj; omega)]
    by_cases e1 : j < xss.length
    · rw [if_pos e1]; exact h6 i j hij e1
    · rw [if_neg e1]
      obtain ⟨u, _, _, a3, _⟩ := h5 i (by simp at hj; omega)
      omega

theorem OwnES.far {w w' : World} {base top : Nat} {e : TypeId} {v : Value} {xss : List (List (Int × Int))} {row : Option Nat} (h : OwnES w base top e v xss) (hg : w.grownBy w' row) (hr : ∀ g, row = some g → g < base) : OwnES w' base top e v xss := by
  obtain ⟨vs, lo, hi, h1, h2, h3, h4, h5, h6⟩ := h
  refine ⟨vs, lo, hi, h1, h2.kept hg ?_, h3, Nat.le_trans h4 hg.size, fun j hj => ?_, h6⟩
  · cases hv : v.ownBlock with
    | none => exact .inl rfl
    | some g =>
      right
      intro e
      have := (h2.lt g hv).1
      have := hr g e.symm
      omega
  · obtain ⟨u, a1, a2, a3, a4, a5⟩ := h5 j hj
    exact ⟨u, a1, a2, a3, a4.far hg (by omega) (fun g e => .inl (by have := hr g e; omega)), a5⟩


end Go.Proofs.Ytmdlginjblnfoaa

/- Rows of ends that a call owns and appends to. No condition on any program. -/
namespace Go.Proofs.Ytmdlginjblnfoaa
open Go.RowKit
set_option linter.unusedVariables false

/-- the cells of ends -/
def flatP : List Po → List Value
  | [] => []
  | p :: l => .int .i64 (p.1 : Int) :: .int .i64 (p.2 : Int) :: flatP l
theorem flatP_length : ∀ l : List Po, (flatP l).length = l.length * 2
  | [] => rfl
  | p :: l => by simp only [flatP, List.length_cons]; rw [flatP_length l]; omega
theorem flatP_snoc : ∀ (l : List Po) (p : Po), flatP (l ++ [p]) = flatP l ++ [.int .i64 (p.1 : Int), .int .i64 (p.2 : Int)]
  | [], p => rfl
  | x :: l, p => by show _ :: _ :: flatP (l ++ [p]) = _; rw [flatP_snoc l p]; rfl
theorem flatP_get : ∀ (l : List Po) (j : Nat), j < l.length * 2 → (flatP l)[j]? = some (endCell (castL l) j)
  | [], j, h => absurd h (by simp)
  | p :: l, 0, h => rfl
  | p :: l, 1, h => rfl
  | p :: l, j + 2, h => by
    have := flatP_get l j (by simp only [List.length_cons] at h; omega)
    show (flatP l)[j]? = _
    rw [this]
    unfold endCell
    rw [show (j + 2) % 2 = j % 2 by omega, show (j + 2) / 2 = j / 2 + 1 by omega]
    rfl
/-- a row of ends that the call owns -/
def OwnE (w : World) (base : Nat) (e : TypeId) (v : Value) (l : List Po) : Prop := w.ownsRow base e 2 v l.length (flatP l)
section
variable {w w' : World} {lo hi base : Nat} {v : Value} {l : List Po} {e : TypeId} {row : Option Nat}
theorem OwnE.nil (w : World) (base : Nat) (e : TypeId) : OwnE w base e (.slice none 0 0) [] := World.ownsRow_nil w base e 2
theorem OwnE.lt (h : OwnE w base e v l) : ∀ k, v.ownBlock = some k → base ≤ k ∧ k < w.heap.size := World.ownsRow.lt h
theorem OwnE.alloc (h : OwnE w base e v l) (o : Obj) : OwnE (w.alloc o) base e v l := World.ownsRow.alloc h o
theorem OwnE.kept {row : Option Nat} (h : OwnE w base e v l) (hg : w.grownBy w' row) (hne : v.ownBlock = none ∨ v.ownBlock ≠ row) : OwnE w' base e v l := World.ownsRow.kept h hg hne
theorem OwnE.still (h : OwnE w base e v l) (hg : w.grownBy w' none) : OwnE w' base e v l := h.kept hg (by
  cases hv : v.ownBlock with
  | none => exact .inl rfl
  | some g => right; simp)
theorem OwnE.far (h : OwnE w base e v l) (hg : w.grownBy w' row) (hr : ∀ g, row = some g → v.ownBlock ≠ some g) : OwnE w' base e v l := h.kept hg (by
  cases hv : v.ownBlock with
  | none => exact .inl rfl
  | some g => right; intro e; exact hr g e.symm hv)
theorem OwnE.ends (h : OwnE w base e v l) : EndS w base w.heap.size v (castL l) := by
  have h1 : w.ownsRow base e 2 v (castL l).length (flatP l) := by rw [castL_length]; exact h
  exact Sl.of_own h1 fun j hj => flatP_get l j (by rw [castL_length] at hj; omega)
theorem OwnE.len (h : OwnE w base e v l) : ∃ A c, v = .slice A l.length c ∧ l.length ≤ c ∧ c ≤ 9223372036854775807 := by
  obtain ⟨A, c, e, h1, h2⟩ := h.ends.dims
  rw [castL_length] at e h1
  exact ⟨A, c, e, h1, h2⟩
end
def lenV : Value → Nat
  | .slice _ n _ => n
  | _ => 0
theorem OwnE.lenV {w : World} {base : Nat} {e : TypeId} {v : Value} {l : List Po} (h : OwnE w base e v l) : lenV v = l.length := by
  obtain ⟨A, c, rfl, _⟩ := h.len
  rfl
/-- append of one end, just laid in a block of its own -/
theorem append_end {P : Program} {ops : Array Oper} {rest : List Oper} {o : Oper} {a : Act} {Q : Exit → Act → World → Prop} {t e : TypeId} {z : Value} {bytes : Nat}
    (ht : P.underlying t = some (.slice e)) (hinfo : (P.info? e).map (fun i => (i.zero, i.size, i.bytes)) = some (some z, 2, bytes)) (hz1 : z.cells.size = 2) (hby : bytes ≤ 64)
    (w : World) (hgd : o.guard = none) {s : Operand} (x : Operand) (ho : o.op = .call { callee := .builtin .append, args := #[s, x], argTypes := #[t, t] })
    {base : Nat} {v : Value} {l : List Po} (hown : OwnE w base e v l) (p : Po) (te : TypeId) (hs : a.eval s = v) (hx : a.eval x = .slice (some ⟨w.heap.size, 0, none⟩) 1 1)
    (hlen : l.length < 1099511627776) (hbase : base ≤ w.heap.size)
    (h : ∀ v' w', OwnE w' base e v' (l ++ [p]) → w.grownBy w' v.ownBlock → (v'.ownBlock = v.ownBlock ∨ v'.ownBlock = some (w.heap.size + 1)) → wpList P ops Q rest (a.put o.dst v') w') :
    wpList P ops Q (o :: rest) a (w.alloc (.cells #[.int .i64 (p.1 : Int), .int .i64 (p.2 : Int)] te)) := by
  refine append_row ht hinfo hz1 (by omega) hby _ hgd x ho (hown.alloc _) hs [.int .i64 (p.1 : Int), .int .i64 (p.2 : Int)] hx rfl ?_ ?_ (by omega) (by simp; omega) fun v' w' a1 a2 a3 => h v' w' ?_ ?_ ?_
  · intro j u hj
    rw [show (⟨w.heap.size, 0, none⟩ : Addr).add j = ⟨w.heap.size, j, none⟩ by simp [Addr.add, eq_comm], World.cell?_alloc_at _ _ _ _ rfl]
    simpa using hj
  · intro u hu
    simp only [List.mem_cons, List.not_mem_nil, or_false] at hu
    rcases hu with rfl | rfl <;> rfl
  · unfold OwnE
    rw [flatP_snoc, List.length_append]
    exact a1
  · exact ⟨a2.os, a2.tape, a2.output, Nat.le_trans (by simp) a2.size, fun k hk hne => (a2.block k (by simp; omega) hne).trans (Below.heap_alloc _ _ _ hk)⟩
  · simpa using a3

end Go.Proofs.Ytmdlginjblnfoaa

/- Memory of the network that a call builds out of kept ports: a map of ends to ends of the call's own; three slices that grow in one struct. No condition on any program. -/
namespace Go.Proofs.Ytmdlginjblnfoaa
open Go.ChangeShapes Go.WideShapes Go.ChangeAt Go.RowKit
set_option linter.unusedVariables false

theorem results_cell1 {fn : Func} {t : Tmp} {ty : TypeId} (h : fn.results = #[.cell t ty]) (tmps : Array Value) (P : Program) (w : World) {p : Addr} {v : Value} (ha : tmps.getD t undef = .pointer (some p)) (hl : (loadVar ty p).run P w = .ok v w) :
    (results fn tmps).run P w = .ok v w := by
  have ha' : tmps[t]?.getD undef = .pointer (some p) := by simpa using ha
  simp [results, h, ha', asAddr, hl]
theorem load_net {w : World} {g : Nat} {a b c : Value} (h : BoxN w g #[a, b, c] 31) : (loadVar 31 ⟨g, 0, none⟩).run Try.prog w = .ok (.agg #[a, b, c]) w := by
  have k0 : w.cell? ⟨g, 0, none⟩ = some a := h.cell 0 (by simp)
  have k1 : w.cell? ⟨g, 1, none⟩ = some b := h.cell 1 (by simp)
  have k2 : w.cell? ⟨g, 2, none⟩ = some c := h.cell 2 (by simp)
  unfold loadVar
  simp [go_sem, k0, k1, k2]
/-- a map whose values are held as they are -/
def rdH (v : Value) : Option (DataW Value × List MemPlace) := some (.held v, [])
/-- an end as a value -/
def endP (p : Po) : Value := .agg #[.int .i64 ((p.1 : Nat) : Int), .int .i64 ((p.2 : Nat) : Int)]
/-- block b is a map with ends as keys that reads as U; it has at most m entries -/
def MpE (w : World) (b : Nat) (U : Int → Int → Po) (m : Nat) : Prop :=
  ∃ (n : Nat) (D : DataW Value), n ≤ m ∧ w.ownsMap Try.prog 56 rdH b n D ∧ Maps.IsMap D ∧ ∀ x y, I64 x → I64 y → D.atKey (kl x y) (.held (endP (0, 0))) = .held (endP (U x y))
def setUE (U : Int → Int → Po) (x y : Int) (v : Po) : Int → Int → Po := fun a b => if a = x ∧ b = y then v else U a b
theorem setUE_at (U : Int → Int → Po) (x y : Int) (v : Po) : setUE U x y v x y = v := by unfold setUE; rw [if_pos ⟨rfl, rfl⟩]
theorem setUE_ne {U : Int → Int → Po} {x y a b : Int} {v : Po} (h : ¬ (a = x ∧ b = y)) : setUE U x y v a b = U a b := by unfold setUE; rw [if_neg h]
section
variable {w w' : World} {b m : Nat} {U : Int → Int → Po}
theorem MpE.new (w : World) : MpE (w.alloc (.map #[] 0)) w.heap.size (fun _ _ => (0, 0)) 0 :=
  ⟨0, .map [], Nat.le_refl _, World.ownsMap_made _ _ _ _, Maps.isMap_empty, fun x y _ _ => rfl⟩
theorem MpE.lt (h : MpE w b U m) : b < w.heap.size := let ⟨_, _, _, h, _⟩ := h; h.lt
theorem MpE.mono (h : MpE w b U m) {m' : Nat} (hm : m ≤ m') : MpE w b U m' := let ⟨n, D, h1, h2⟩ := h; ⟨n, D, by omega, h2⟩
theorem MpE.kept {row : Option Nat} (h : MpE w b U m) (hg : w.grownBy w' row) (hr : some b ≠ row) : MpE w' b U m := let ⟨n, D, h1, h2, h3⟩ := h; ⟨n, D, h1, h2.kept hg hr, h3⟩
theorem MpE.far {row : Option Nat} (h : MpE w b U m) (hg : w.grownBy w' row) (hr : ∀ g, row = some g → g ≠ b) : MpE w' b U m := h.kept hg (fun e => hr b e.symm rfl)
theorem MpE.still (h : MpE w b U m) (hg : w.grownBy w' none) : MpE w' b U m := h.kept hg (by simp)
end

/-- no two own one block -/
def Ap (u v : Value) : Prop := ∀ g, u.ownBlock = some g → v.ownBlock ≠ some g
theorem Ap.symm {u v : Value} (h : Ap u v) : Ap v u := fun g h1 h2 => h g h2 h1
theorem Ap.nil (v : Value) : Ap (.slice none 0 0) v := fun g h => by cases h
theorem Ap.keeps {u v : Value} (h : Ap u v) : u.ownBlock = none ∨ u.ownBlock ≠ v.ownBlock := by
  cases hu : u.ownBlock with
  | none => exact .inl rfl
  | some g => right; exact fun e => h g hu e.symm
theorem Ap.new {u v v' : Value} {n : Nat} (h : Ap u v) (hu : ∀ g, u.ownBlock = some g → g < n) (hv : v'.ownBlock = v.ownBlock ∨ ∃ g, v'.ownBlock = some g ∧ n ≤ g) : Ap u v' := fun g h1 h2 => by
  rcases hv with e | ⟨g', e, hg⟩
  · exact h g h1 (by rw [← e]; exact h2)
  · rw [e] at h2; injection h2 with h2; have := hu g h1; omega
theorem OwnE.weak {w : World} {base base' : Nat} {e : TypeId} {v : Value} {l : List Po} (h : OwnE w base e v l) (hb : base' ≤ base) : OwnE w base' e v l := by
  obtain ⟨h1, h2⟩ := h
  refine ⟨h1, ?_⟩
  rcases h2 with h2 | ⟨g, cap, cur, e1, hg, hh, hn, hm, hs, ht⟩
  · exact .inl h2
  · exact .inr ⟨g, cap, cur, e1, Nat.le_trans hb hg, hh, hn, hm, hs, ht⟩
theorem own_appP {w : World} {base : Nat} {e : TypeId} {v : Value} {ps : List Int} {z : Int} (h : w.ownsRow base e 1 v (ps.length + 1) (ps.map (Value.int .i64) ++ [.int .i64 z])) : OwnI w base e v (ps ++ [z]) := by
  unfold OwnI Own
  rw [List.map_append]
  simpa using h
theorem netIds {w : World} {lo hi : Nat} {v1 v2 v3 : Value} {N : NetD} (h : Net w lo hi (.agg #[v1, v2, v3]) N) : IntS w lo hi v2 N.ids := by
  obtain ⟨a, b, c, e, _, h1, _⟩ := h
  simp only [Value.agg.injEq, Array.mk.injEq, List.cons.injEq, and_true] at e
  obtain ⟨rfl, rfl, rfl⟩ := e
  exact h1
theorem netIns {w : World} {lo hi : Nat} {v1 v2 v3 : Value} {N : NetD} (h : Net w lo hi (.agg #[v1, v2, v3]) N) : IntS w lo hi v3 N.inputs := by
  obtain ⟨a, b, c, e, _, _, h1⟩ := h
  simp only [Value.agg.injEq, Array.mk.injEq, List.cons.injEq, and_true] at e
  obtain ⟨rfl, rfl, rfl⟩ := e
  exact h1
/-- three slices that a call owns: rows of ends, and two rows of numbers -/
structure GN (w : World) (base : Nat) (vE vD vI : Value) (rows : List (List Po)) (ids ins : List Int) : Prop where
  intro ::
  all : ∃ us : List Value, us.length = rows.length ∧ Own w base 54 vE us ∧ OwnI w base 3 vD ids ∧ OwnI w base 3 vI ins ∧
    (∀ j, j < rows.length → ∃ u, us[j]? = some u ∧ OwnE w base 56 u (nthL rows j) ∧ Ap u vE ∧ Ap u vD ∧ Ap u vI) ∧ Ap vE vD ∧ Ap vE vI ∧ Ap vD vI
section
variable {w w' : World} {base : Nat} {vE vD vI : Value} {rows : List (List Po)} {ids ins : List Int}
theorem GN.nil (w : World) (base : Nat) : GN w base (.slice none 0 0) (.slice none 0 0) (.slice none 0 0) [] [] [] :=
  ⟨[], rfl, Own.nil _ _ _, OwnI.nil _ _ _, OwnI.nil _ _ _, fun j hj => absurd hj (by simp), Ap.nil _, Ap.nil _, Ap.nil _⟩
theorem GN.ltE (h : GN w base vE vD vI rows ids ins) : ∀ g, vE.ownBlock = some g → base ≤ g ∧ g < w.heap.size := let ⟨_, _, h, _⟩ := h.all; h.lt
theorem GN.ltD (h : GN w base vE vD vI rows ids ins) : ∀ g, vD.ownBlock = some g → base ≤ g ∧ g < w.heap.size := let ⟨_, _, _, h, _⟩ := h.all; h.lt
theorem GN.ltI (h : GN w base vE vD vI rows ids ins) : ∀ g, vI.ownBlock = some g → base ≤ g ∧ g < w.heap.size := let ⟨_, _, _, _, h, _⟩ := h.all; h.lt
theorem GN.idsO (h : GN w base vE vD vI rows ids ins) : OwnI w base 3 vD ids := let ⟨_, _, _, h, _⟩ := h.all; h
theorem GN.insO (h : GN w base vE vD vI rows ids ins) : OwnI w base 3 vI ins := let ⟨_, _, _, _, h, _⟩ := h.all; h
theorem GN.lenE (h : GN w base vE vD vI rows ids ins) : ∃ A c, vE = .slice A rows.length c ∧ rows.length ≤ c ∧ c ≤ maxLen := by
  obtain ⟨us, h1, h2, _⟩ := h.all
  obtain ⟨A, c, e, a1, a2, _⟩ := h2.form
  exact ⟨A, c, by rw [e, h1], by omega, a2⟩
/-- writes elsewhere -/
theorem GN.keptB {row : Option Nat} (h : GN w base vE vD vI rows ids ins) (hg : w.grownBy w' row) (hr : ∀ g, row = some g → g < base) : GN w' base vE vD vI rows ids ins := by
  obtain ⟨us, h1, h2, h3, h4, h5, h6⟩ := h.all
  have hk : ∀ v : Value, (∀ g, v.ownBlock = some g → base ≤ g ∧ g < w.heap.size) → v.ownBlock = none ∨ v.ownBlock ≠ row := fun v hv => by
    cases e : v.ownBlock with
    | none => exact .inl rfl
    | some g => right; intro e2; have := hr g e2.symm; have := (hv g e).1; omega
  refine ⟨us, h1, h2.kept hg (hk _ h2.lt), OwnI.kept h3 hg (hk _ h3.lt), OwnI.kept h4 hg (hk _ h4.lt), fun j hj => ?_, h6⟩
  obtain ⟨u, a1, a2, a3⟩ := h5 j hj
  exact ⟨u, a1, a2.kept hg (hk _ a2.lt), a3⟩
theorem GN.still (h : GN w base vE vD vI rows ids ins) (hg : w.grownBy w' none) : GN w' base vE vD vI rows ids ins := h.keptB hg (fun g e => by cases e)
/-- numbers behind the third -/
theorem GN.addI (h : GN w base vE vD vI rows ids ins) {vI' : Value} {x : Int} (hg : w.grownBy w' vI.ownBlock) (ho : OwnI w' base 3 vI' (ins ++ [x])) (hv : vI'.ownBlock = vI.ownBlock ∨ ∃ g, vI'.ownBlock = some g ∧ w.heap.size ≤ g) : GN w' base vE vD vI' rows ids (ins ++ [x]) := by
  obtain ⟨us, h1, h2, h3, h4, h5, h6, h7, h8⟩ := h.all
  refine ⟨us, h1, h2.kept hg h7.keeps, OwnI.kept h3 hg h8.keeps, ho, fun j hj => ?_, h6, h7.new (fun g e => (h2.lt g e).2) hv, h8.new (fun g e => (h3.lt g e).2) hv⟩
  obtain ⟨u, a1, a2, a3, a4, a5⟩ := h5 j hj
  exact ⟨u, a1, a2.kept hg a5.keeps, a3, a4, a5.new (fun g e => (a2.lt g e).2) hv⟩
/-- numbers behind the second -/
theorem GN.addD (h : GN w base vE vD vI rows ids ins) {vD' : Value} {x : Int} (hg : w.grownBy w' vD.ownBlock) (ho : OwnI w' base 3 vD' (ids ++ [x])) (hv : vD'.ownBlock = vD.ownBlock ∨ ∃ g, vD'.ownBlock = some g ∧ w.heap.size ≤ g) : GN w' base vE vD' vI rows (ids ++ [x]) ins := by
  obtain ⟨us, h1, h2, h3, h4, h5, h6, h7, h8⟩ := h.all
  refine ⟨us, h1, h2.kept hg h6.keeps, ho, OwnI.kept h4 hg h8.symm.keeps, fun j hj => ?_, h6.new (fun g e => (h2.lt g e).2) hv, h7, ((h8.symm).new (fun g e => (h4.lt g e).2) hv).symm⟩
  obtain ⟨u, a1, a2, a3, a4, a5⟩ := h5 j hj
  exact ⟨u, a1, a2.kept hg a4.keeps, a3, a4.new (fun g e => (a2.lt g e).2) hv, a5⟩
/-- what it reads as -/
theorem GN.net (h : GN w base vE vD vI rows ids ins) : Net w base w.heap.size (.agg #[vE, vD, vI]) ⟨rows.map castL, ids, ins⟩ := by
  obtain ⟨us, h1, h2, h3, h4, h5, _⟩ := h.all
  refine ⟨vE, vD, vI, rfl, ⟨fun j => us.getD j undef, ?_, fun j hj => ?_⟩, h3.ints, h4.ints⟩
  · have := Sl.of_own (f := fun j => us.getD j undef) h2 (fun j hj => by simp at hj; simp [hj])
    show Sl w base w.heap.size 1 vE (rows.map castL).length _
    rw [List.length_map, ← h1]
    exact this
  · simp only [List.length_map] at hj
    obtain ⟨u, a1, a2, _⟩ := h5 j hj
    have e : us.getD j undef = u := by simp [a1]
    show EndS w base w.heap.size (us.getD j undef) _
    rw [e]
    have := a2.ends
    have e2 : nthL (rows.map castL) j = castL (nthL rows j) := by simp [nthL, hj]
    show EndS w base w.heap.size u (nthL (rows.map castL) j)
    rw [e2]; exact this
end

/-- append of one row of ends onto the first, the row's slice just laid in a block of its own -/
theorem append_gn {P : Program} {ops : Array Oper} {rest : List Oper} {o : Oper} {a : Act} {Q : Exit → Act → World → Prop} {t : TypeId} {bytes : Nat}
    (ht : P.underlying t = some (.slice 54)) (hinfo : (P.info? 54).map (fun i => (i.zero, i.size, i.bytes)) = some (some (.slice none 0 0), 1, bytes)) (hby : bytes ≤ 64)
    (w : World) (hgd : o.guard = none) {s : Operand} (x : Operand) (ho : o.op = .call { callee := .builtin .append, args := #[s, x], argTypes := #[t, t] })
    {base : Nat} {vE vD vI : Value} {rows : List (List Po)} {ids ins : List Int} (hown : GN w base vE vD vI rows ids ins) {u : Value} {l : List Po} (hu : OwnE w base 56 u l) (hE : Ap u vE) (hD : Ap u vD) (hI : Ap u vI)
    (te : TypeId) (hs : a.eval s = vE) (hx : a.eval x = .slice (some ⟨w.heap.size, 0, none⟩) 1 1) (hlen : rows.length < 1099511627776) (hbase : base ≤ w.heap.size)
    (h : ∀ v' w', GN w' base v' vD vI (rows ++ [l]) ids ins → w.grownBy w' vE.ownBlock → wpList P ops Q rest (a.put o.dst v') w') :
    wpList P ops Q (o :: rest) a (w.alloc (.cells #[u] te)) := by
  obtain ⟨us, h1, h2, h3, h4, h5, h6, h7, h8⟩ := hown.all
  obtain ⟨A, c, hf, _⟩ := hu.len
  refine append1 ht hinfo rfl hby w hgd x ho h2 _ te hs hx (by rw [hf]; rfl) (by omega) hbase fun v' w' ho' hg' hat' => h v' w' ?_ hg'
  have hat2 : v'.ownBlock = vE.ownBlock ∨ ∃ g, v'.ownBlock = some g ∧ w.heap.size ≤ g := hat'.imp id fun e => ⟨_, e, by omega⟩
  refine ⟨us ++ [u], by simp [h1], ho', OwnI.kept h3 hg' h6.symm.keeps, OwnI.kept h4 hg' h7.symm.keeps, fun j hj => ?_, ((h6.symm).new (fun g e => (h3.lt g e).2) hat2).symm, ((h7.symm).new (fun g e => (h4.lt g e).2) hat2).symm, h8⟩
  by_cases e1 : j < rows.length
  · obtain ⟨u', a1, a2, a3, a4, a5⟩ := h5 j e1
    rw [nthL_append_left e1]
    exact ⟨u', by rw [List.getElem?_append_left (by omega)]; exact a1, a2.kept hg' a3.keeps, a3.new (fun g e => (a2.lt g e).2) hat2, a4, a5⟩
  · obtain rfl : j = rows.length := by simp at hj; omega
    rw [nthL_append_at]
    exact ⟨u, by rw [← h1]; simp, hu.kept hg' hE.keeps, hE.new (fun g e => (hu.lt g e).2) hat2, hD, hI⟩

theorem good_insl {N : NetD} (hg : N.good = true) : N.inputs.length = N.ends.length := by
  unfold NetD.good NetD.headOk at hg
  simp only [Bool.and_eq_true] at hg
  have hi := hg.1.2.2
  unfold insGood at hi
  simp only [Bool.and_eq_true, decide_eq_true_eq] at hi
  omega
theorem good_idsl {N : NetD} (hg : N.good = true) : N.ids.length = 0 ∨ N.ids.length = N.ends.length := by
  unfold NetD.good NetD.headOk at hg
  simp only [Bool.and_eq_true] at hg
  have hi := hg.1.2.1
  unfold idsGood at hi
  simp only [Bool.and_eq_true, Bool.or_eq_true, decide_eq_true_eq] at hi
  omega
/-! plain: what the network of kept ports is -/
def cntK (kp : Nat → Nat → Bool) (v m : Nat) : Nat := ((List.range m).filter (kp v)).length
theorem cntK_succ (kp : Nat → Nat → Bool) (v m : Nat) : cntK kp v (m + 1) = cntK kp v m + if kp v m = true then 1 else 0 := by
  unfold cntK
  rw [List.range_succ, List.filter_append, List.length_append]
  by_cases h : kp v m = true
  · rw [if_pos h]; simp [h]
  · rw [if_neg h]; simp [h]
theorem cntK_le (kp : Nat → Nat → Bool) (v m : Nat) : cntK kp v m ≤ m := by
  unfold cntK; exact Nat.le_trans (List.length_filter_le _ _) (by simp)
/-- the places of the kept ports of the node with index k, up to port m -/
def rowU (kp : Nat → Nat → Bool) (U : Int → Int → Po) (v k : Nat) : Nat → Int → Int → Po
  | 0 => U
  | m + 1 => if kp v m = true then setUE (rowU kp U v k m) v m (k, cntK kp v m) else rowU kp U v k m
def allU (N : NetD) (kp : Nat → Nat → Bool) (zs : List Int) : Nat → Int → Int → Po
  | 0 => fun _ _ => (0, 0)
  | k + 1 => rowU kp (allU N kp zs k) (nth zs k).toNat k (nthL N.ends (nth zs k).toNat).length
def partRow (N : NetD) (kp : Nat → Nat → Bool) (U : Int → Int → Po) (v m : Nat) : List Po := ((List.range m).filter (kp v)).map fun i => U (nthE (nthL N.ends v) i).1 (nthE (nthL N.ends v) i).2
theorem partRow_len (N : NetD) (kp : Nat → Nat → Bool) (U : Int → Int → Po) (v m : Nat) : (partRow N kp U v m).length = cntK kp v m := by simp [partRow, cntK]
theorem partRow_yes {N : NetD} {kp : Nat → Nat → Bool} {U : Int → Int → Po} {v m : Nat} (h : kp v m = true) : partRow N kp U v (m + 1) = partRow N kp U v m ++ [U (nthE (nthL N.ends v) m).1 (nthE (nthL N.ends v) m).2] := by simp [partRow, List.range_succ, h]
theorem partRow_no {N : NetD} {kp : Nat → Nat → Bool} {U : Int → Int → Po} {v m : Nat} (h : kp v m = false) : partRow N kp U v (m + 1) = partRow N kp U v m := by simp [partRow, List.range_succ, h]
def partRows (N : NetD) (kp : Nat → Nat → Bool) (U : Int → Int → Po) (zs : List Int) : List (List Po) := zs.map fun z => partRow N kp U z.toNat (nthL N.ends z.toNat).length
def pickL (l zs : List Int) : List Int := zs.map fun z => nth l z.toNat
def partN (N : NetD) (zs : List Int) (kp : Nat → Nat → Bool) : NetD :=
  ⟨(partRows N kp (allU N kp zs zs.length) zs).map castL, if 0 < N.ids.length then pickL N.ids zs else [], pickL N.inputs zs⟩
theorem partRows_take {N : NetD} {kp : Nat → Nat → Bool} {U : Int → Int → Po} {zs : List Int} {k : Nat} (h : k < zs.length) : partRows N kp U (zs.take (k + 1)) = partRows N kp U (zs.take k) ++ [partRow N kp U (nth zs k).toNat (nthL N.ends (nth zs k).toNat).length] := by
  unfold partRows; rw [List.take_succ_eq_append_getElem h, List.map_append, nth_eq h]; rfl
theorem pickL_take {l zs : List Int} {k : Nat} (h : k < zs.length) : pickL l (zs.take (k + 1)) = pickL l (zs.take k) ++ [nth l (nth zs k).toNat] := by
  unfold pickL; rw [List.take_succ_eq_append_getElem h, List.map_append, nth_eq h]; rfl
theorem partRows_len (N : NetD) (kp : Nat → Nat → Bool) (U : Int → Int → Po) (zs : List Int) : (partRows N kp U zs).length = zs.length := by simp [partRows]
theorem pickL_len (l zs : List Int) : (pickL l zs).length = zs.length := by simp [pickL]

end Go.Proofs.Ytmdlginjblnfoaa

/- Contracts: slices.Clone at ends, copyNetwork (program). -/
namespace Go.Proofs.Ytmdlginjblnfoaa
open Go.ChangeShapes Go.WideShapes Go.ChangeAt Go.RowKit
set_option linter.unusedVariables false

theorem infoEndR : (Try.prog.info? 56).map (fun i => (i.zero, i.size, i.bytes)) = some (some (.agg #[.int .i64 0, .int .i64 0]), 2, 16) := by kernel_rfl
theorem infoRowR : (Try.prog.info? 54).map (fun i => (i.zero, i.size, i.bytes)) = some (some (.slice none 0 0), 1, 24) := by kernel_rfl
/-- the cells of a row of ends, as a list -/
def flatZ (es : List (Int × Int)) : List Value := (List.range (es.length * 2)).map (endCell es)
theorem flatZ_length (es : List (Int × Int)) : (flatZ es).length = es.length * 2 := by simp [flatZ]
theorem flatZ_get (es : List (Int × Int)) {j : Nat} (h : j < es.length * 2) : (flatZ es)[j]? = some (endCell es j) := by simp [flatZ, h]
theorem EndS.ofOwn {w : World} {base : Nat} {e : TypeId} {v : Value} {es : List (Int × Int)} (h : w.ownsRow base e 2 v es.length (flatZ es)) : EndS w base w.heap.size v es := Sl.of_own h fun j hj => flatZ_get es hj
theorem netEndsR {w : World} {lo hi : Nat} {v1 v2 v3 : Value} {N : NetD} (h : Net w lo hi (.agg #[v1, v2, v3]) N) : EndSS w lo hi v1 N.ends := by
  obtain ⟨a, b, c, e, h1, _⟩ := h
  simp only [Value.agg.injEq, Array.mk.injEq, List.cons.injEq, and_true] at e
  obtain ⟨rfl, rfl, rfl⟩ := e
  exact h1
/-- the rows written so far -/
def fillE (N : NetD) (k : Nat) : List (List (Int × Int)) := N.ends.take k ++ List.replicate (N.ends.length - k) []
theorem fillE_len (N : NetD) {k : Nat} (h : k ≤ N.ends.length) : (fillE N k).length = N.ends.length := by simp [fillE]; omega
theorem fillE_zero (N : NetD) : fillE N 0 = List.replicate N.ends.length [] := by simp [fillE]
theorem fillE_all (N : NetD) : fillE N N.ends.length = N.ends := by simp [fillE]
theorem fillE_set {N : NetD} {k : Nat} (h : k < N.ends.length) : (fillE N k).set k (nthL N.ends k) = fillE N (k + 1) := by
  unfold fillE
  rw [List.set_append, if_neg (by rw [List.length_take]; omega), List.length_take, Nat.min_eq_left (by omega), Nat.sub_self, show N.ends.length - k = (N.ends.length - (k + 1)) + 1 by omega, List.replicate_succ, List.set_cons_zero, List.take_succ_eq_append_getElem h, nthL_eq h, List.append_assoc]
  rfl
theorem rowIs_boxN {w : World} {g n : Nat} {t : TypeId} (h : BoxN w g (madeCells #[.slice none 0 0] n) t) : w.rowIs g t n (fun _ => .slice none 0 0) := by
  refine ⟨_, h, size_madeCells _ _ |>.trans (by simp), fun i hi => ?_⟩
  simp [madeCells, hi, Nat.mod_one]

set_option maxHeartbeats 1000000 in
set_option maxRecDepth 100000 in
theorem cloneE_any (v : Value) (es : List (Int × Int)) (lo hi : Nat) (w : World) (h : EndS w lo hi v es) (hh : hi ≤ w.heap.size) (hn : es.length ≤ 1000000) :
    Calls Try.prog 45 #[v] w fun e w' => ∃ r, e = .returned r ∧ EndS w' w.heap.size w'.heap.size r es ∧ Below w.heap.size w w' := by
  have F1 := Lib.hid h
  obtain ⟨A, c, rfl, hc, hm⟩ := h.dims
  have hop := fun h0 : 0 < es.length => h.opened (j := 0) h0
  have HOP := Lib.hid hop
  clear h hop
  have qn : ∀ (w : World) (a : Option Addr) (n c n' c' : Nat), (binOp .eql 54 (.slice a n c) (.slice none n' c')).run Try.prog w = .ok (.bool a.isNone) w := fun w a n c n' c' => Lib.run_eql_slice_nil w _ _ a n c n' c' Try.underlying54
  cases A with
  | none =>
    have h0 : es.length = 0 := by
      rcases Nat.eq_zero_or_pos es.length with h0 | h0
      · exact h0
      · obtain ⟨b, off, e, _⟩ := HOP.out h0; cases e
    obtain rfl := List.eq_nil_of_length_eq_zero h0
    clear HOP
    go_enter Try.func45, Try.ntmps45
    go_wp2_with fail
    go_ret
    exact ⟨_, rfl, EndS.nil _ _ _, Below.refl _ _⟩
  | some a =>
    obtain ⟨n, HN⟩ : ∃ n, Hid (es.length = n) := ⟨_, Lib.hid rfl⟩
    rw [HN.out] at hc hn ⊢
    have HE := Lib.hid (owns_empty w w.heap.size 56 2 rfl (Nat.le_refl _))
    have HFL := Lib.hid (show (flatZ es).length = n * 2 by rw [flatZ_length, HN.out])
    have HNW := Lib.hid (show ∀ j u, (flatZ es)[j]? = some u → (w.alloc (.cells #[] 56)).cell? (a.add j) = some u from fun j u hj => by
      have hj2 : j < es.length * 2 := by rw [← flatZ_length]; exact (List.getElem?_eq_some_iff.1 hj).1
      obtain ⟨b, off, e, _, hb, _, _⟩ := HOP.out (by omega)
      injection e with e
      subst e
      rw [flatZ_get es hj2] at hj
      injection hj with hj
      subst hj
      rw [Go.WideShapes.add_plain, (below_a1 w _).cell (p := ⟨b, off + j, none⟩) (by show b < _; omega)]
      exact (Sl.at_ F1.out hj2).1)
    have HON := Lib.hid (show ∀ u ∈ flatZ es, u.oneCell' = true from fun u hu => by
      obtain ⟨j, _, rfl⟩ := List.mem_map.1 hu
      rfl)
    go_enter Try.func45, Try.ntmps45
    go_wp2_with (at_builtin; refine append_row (s := .tmp 5) (n := 0) (m := n) Try.underlying54 infoEndR rfl (by omega) (by omega) (w.alloc (.cells #[] 56)) rfl (.tmp 6) rfl HE.out rfl (flatZ es) rfl HFL.out HNW.out HON.out (by omega) (by simp) ?_; intro v' w' ho' hg' _; have HO := Lib.hid (show w'.ownsRow w.heap.size 56 2 v' es.length (flatZ es) by have h := ho'; rw [Nat.zero_add, ← HN.out] at h; exact h))
    obtain ⟨A9, c9, rfl, _, _⟩ := (EndS.ofOwn HO.out).dims
    go_ret
    exact ⟨_, rfl, EndS.ofOwn HO.out, (below_a1 w _).grown hg' (by simp) fun g hg => by have := HE.out.lt g hg; omega⟩

set_option maxHeartbeats 8000000 in
set_option maxRecDepth 100000 in
theorem copyNet_any (v1 : Value) (N : NetD) (lo1 hi1 : Nat) (w : World) (h1 : Net w lo1 hi1 v1 N) (hh1 : hi1 ≤ w.heap.size) (hg : N.good = true) :
    Calls Try.prog 44 #[v1] w fun e w' => ∃ (d1 d2 d3 i2 g c8 c9 : Nat) (A8 A9 : Option Addr), e = .returned (.agg #[.slice (some ⟨g, 0, none⟩) N.ends.length N.ends.length, .slice A8 N.ids.length c8, .slice A9 N.inputs.length c9]) ∧ RN w' w.heap.size d1 d2 d3 i2 w'.heap.size g (.slice (some ⟨g, 0, none⟩) N.ends.length N.ends.length) (.slice A8 N.ids.length c8) (.slice A9 N.inputs.length c9) N ∧ Below w.heap.size w w' := by
  obtain ⟨n1, n40⟩ := good_n hg
  have HG := Lib.hid hg; clear hg
  have HNN := Lib.hid (good_insl HG.out); have HNI := Lib.hid (good_idsl HG.out)
  have hmk := fun W => run_make_row' (P := Try.prog) 29 54 (.slice none 0 0) 24 Try.underlying29 infoRowR rfl .i64 .i64 N.ends.length (by omega) (by omega) W
  have HMK := Lib.hid hmk; clear hmk
  have F1 := Lib.hid h1
  obtain ⟨A1, c1, A1', c1', A1'', c1'', rfl, hc1, hd1, _⟩ := h1.parts
  obtain ⟨b1, o1, _, _, rfl, _⟩ := Net.rowAt F1.out (u := 0) (by omega)
  clear h1
  obtain ⟨WA, HWA⟩ : ∃ W, Hid (W = ((w.alloc (.cells #[.slice (some ⟨b1, o1, none⟩) N.ends.length c1, .slice A1' N.ids.length c1', .slice A1'' N.inputs.length c1''] 31)).alloc (.cells #[.slice none 0 0, .slice none 0 0, .slice none 0 0] 31))) := ⟨_, Lib.hid rfl⟩
  have hbA : Below w.heap.size w WA := by rw [HWA.out]; exact (((Below.refl _ _).alloc (Nat.le_refl _) _).alloc (by simp; try omega) _)
  have hsA : w.heap.size + 2 ≤ WA.heap.size := by rw [HWA.out]; simp; try omega
  have bx1 : BoxN WA (w.heap.size) #[.slice (some ⟨b1, o1, none⟩) N.ends.length c1, .slice A1' N.ids.length c1', .slice A1'' N.inputs.length c1''] 31 := by rw [HWA.out]; exact ((BoxN.new' _ _ _ (by simp)).still (grown_alloc _ _))
  have bxx0 : BoxN WA (w.heap.size + 1) #[.slice none 0 0, .slice none 0 0, .slice none 0 0] 31 := by rw [HWA.out]; exact (BoxN.new' _ _ _ (by simp))
  have G1 := Lib.hid (Net.below F1.out hbA hh1); clear F1
  go_enter Try.func44, Try.ntmps44
  go_upto_region 1 with (fail)
  rw [← HWA.out]; clear HWA
  go_wp2_with fail
  refine region_cut [6, 7, 8, 9, 10, 11, 12, 13, 14, 15, 16, 3] (fun vs W => ∃ (gO gT d1 d2 d3 i2 c8 c9 : Nat) (A8 A9 : Option Addr), vs = [.pointer (some ⟨w.heap.size, 0, none⟩), .slice (some ⟨b1, o1, none⟩) N.ends.length c1, .int .i64 N.ends.length, .slice (some ⟨gT, 0, none⟩) N.ends.length N.ends.length, .pointer (some ⟨w.heap.size, 1, none⟩), .slice A1' N.ids.length c1', .slice A8 N.ids.length c8, .pointer (some ⟨w.heap.size, 2, none⟩), .slice A1'' N.inputs.length c1'', .slice A9 N.inputs.length c9, .agg #[.slice (some ⟨gT, 0, none⟩) N.ends.length N.ends.length, .slice A8 N.ids.length c8, .slice A9 N.inputs.length c9], .pointer (some ⟨gO, 0, none⟩)] ∧ Hid (BoxN W gO #[.slice (some ⟨gT, 0, none⟩) N.ends.length N.ends.length, .slice A8 N.ids.length c8, .slice A9 N.inputs.length c9] 31) ∧ Hid (RN W WA.heap.size d1 d2 d3 i2 W.heap.size gT (.slice (some ⟨gT, 0, none⟩) N.ends.length N.ends.length) (.slice A8 N.ids.length c8) (.slice A9 N.inputs.length c9) ⟨fillE N 0, N.ids, N.inputs⟩) ∧ gO ≠ gT ∧ WA.heap.size ≤ gO ∧ Hid (Turned WA.heap.size WA.heap.size WA W)) ?_ ?_
  case refine_1 =>
    refine wp_region_U (fun w' => w'.cell? ⟨w.heap.size, 0, none⟩ = some (.slice (some ⟨b1, o1, none⟩) N.ends.length c1) ∧ w'.cell? ⟨w.heap.size, 1, none⟩ = some (.slice A1' N.ids.length c1') ∧ w'.cell? ⟨w.heap.size, 2, none⟩ = some (.slice A1'' N.inputs.length c1'')) [] (by kernel_rfl) ?_
    refine nameU ?_
    intro W1 HW1
    have hg1 : WA.grownBy W1 none := by rw [HW1.out]; exact grown_drew _
    clear HW1
    have hs1 := hg1.size
    have HF1 := Lib.hid ((Turned.refl WA.heap.size WA.heap.size WA).still hg1)
    have hS2 : W1.cell? ⟨w.heap.size, 0, none⟩ = some (.slice (some ⟨b1, o1, none⟩) N.ends.length c1) ∧ W1.cell? ⟨w.heap.size, 1, none⟩ = some (.slice A1' N.ids.length c1') ∧ W1.cell? ⟨w.heap.size, 2, none⟩ = some (.slice A1'' N.inputs.length c1'') := ⟨(HF1.out.boxN bx1 (by omega)).cell 0 (by simp), (HF1.out.boxN bx1 (by omega)).cell 1 (by simp), (HF1.out.boxN bx1 (by omega)).cell 2 (by simp)⟩
    refine anyU_take (i := 0) (v := .pointer (some ⟨w.heap.size, 0, none⟩)) rfl (by kernel_rfl) (by kernel_rfl) (by kernel_rfl) (fun _ _ _ ⟨_, _, h, _⟩ => by cases h) ⟨by rfl, fun w' hS' => (by obtain ⟨s1, s2, s3⟩ := hS'; go_simp)⟩ hS2 ?_
    simp only [List.getElem_toArray, List.getElem_cons_zero, Act.put, List.setIfInBounds_toArray, List.set_cons_zero, List.set_cons_succ]
    refine anyU_take (i := 1) (v := .slice (some ⟨b1, o1, none⟩) N.ends.length c1) rfl (by kernel_rfl) (by kernel_rfl) (by kernel_rfl) (fun _ _ _ ⟨_, _, h, _⟩ => by cases h) ⟨by rfl, fun w' hS' => (by obtain ⟨s1, s2, s3⟩ := hS'; go_simp)⟩ hS2 ?_
    simp only [List.getElem_toArray, List.getElem_cons_succ, List.getElem_cons_zero, Act.put, List.setIfInBounds_toArray, List.set_cons_zero, List.set_cons_succ]
    refine anyU_take (i := 2) (v := .int .i64 N.ends.length) rfl (by kernel_rfl) (by kernel_rfl) (by kernel_rfl) (fun _ _ _ ⟨_, _, h, _⟩ => by cases h) ⟨by rfl, fun w' hS' => (by obtain ⟨s1, s2, s3⟩ := hS'; go_simp)⟩ hS2 ?_
    simp only [List.getElem_toArray, List.getElem_cons_succ, List.getElem_cons_zero, Act.put, List.setIfInBounds_toArray, List.set_cons_zero, List.set_cons_succ]
    refine anyU_take (i := 4) (v := .pointer (some ⟨w.heap.size, 1, none⟩)) rfl (by kernel_rfl) (by kernel_rfl) (by kernel_rfl) (fun _ _ _ ⟨_, _, h, _⟩ => by cases h) ⟨by rfl, fun w' hS' => (by obtain ⟨s1, s2, s3⟩ := hS'; go_simp)⟩ hS2 ?_
    simp only [List.getElem_toArray, List.getElem_cons_succ, List.getElem_cons_zero, Act.put, List.setIfInBounds_toArray, List.set_cons_zero, List.set_cons_succ]
    refine anyU_take (i := 5) (v := .slice A1' N.ids.length c1') rfl (by kernel_rfl) (by kernel_rfl) (by kernel_rfl) (fun _ _ _ ⟨_, _, h, _⟩ => by cases h) ⟨by rfl, fun w' hS' => (by obtain ⟨s1, s2, s3⟩ := hS'; go_simp)⟩ hS2 ?_
    simp only [List.getElem_toArray, List.getElem_cons_succ, List.getElem_cons_zero, Act.put, List.setIfInBounds_toArray, List.set_cons_zero, List.set_cons_succ]
    refine anyU_take (i := 7) (v := .pointer (some ⟨w.heap.size, 2, none⟩)) rfl (by kernel_rfl) (by kernel_rfl) (by kernel_rfl) (fun _ _ _ ⟨_, _, h, _⟩ => by cases h) ⟨by rfl, fun w' hS' => (by obtain ⟨s1, s2, s3⟩ := hS'; go_simp)⟩ hS2 ?_
    simp only [List.getElem_toArray, List.getElem_cons_succ, List.getElem_cons_zero, Act.put, List.setIfInBounds_toArray, List.set_cons_zero, List.set_cons_succ]
    refine anyU_take (i := 8) (v := .slice A1'' N.inputs.length c1'') rfl (by kernel_rfl) (by kernel_rfl) (by kernel_rfl) (fun _ _ _ ⟨_, _, h, _⟩ => by cases h) ⟨by rfl, fun w' hS' => (by obtain ⟨s1, s2, s3⟩ := hS'; go_simp)⟩ hS2 ?_
    simp only [List.getElem_toArray, List.getElem_cons_succ, List.getElem_cons_zero, Act.put, List.setIfInBounds_toArray, List.set_cons_zero, List.set_cons_succ]
    refine anyU_ready (rs := [3, 6, 11]) (by kernel_rfl) (by simp) ?_
    refine ReadyU.cons (i := 3) rfl (fun K hK => ?_) ?_
    case refine_1 =>
      simp only [List.getElem_toArray, List.getElem_cons_succ, List.getElem_cons_zero]
      refine ite_is (by rfl) ?_
      have hmk := HMK.out
      simp [go_sem, hmk]
      clear hmk
      refine nameA ?_
      intro W3 HW3
      have hg3 : W1.grownBy W3 none := by rw [HW3.out]; exact grown_alloc _ _
      have TB3 := Lib.hid (show BoxN W3 W1.heap.size (madeCells #[.slice none 0 0] N.ends.length) 54 by rw [HW3.out]; exact BoxN.new _ _ _)
      have hz3 : W1.heap.size < W3.heap.size := TB3.out.lt
      clear HW3
      have hs3 := hg3.size
      have HF3 := Lib.hid (HF1.out.still hg3); clear HF1
      have hS4 : W3.cell? ⟨w.heap.size, 0, none⟩ = some (.slice (some ⟨b1, o1, none⟩) N.ends.length c1) ∧ W3.cell? ⟨w.heap.size, 1, none⟩ = some (.slice A1' N.ids.length c1') ∧ W3.cell? ⟨w.heap.size, 2, none⟩ = some (.slice A1'' N.inputs.length c1'') := ⟨(HF3.out.boxN bx1 (by omega)).cell 0 (by simp), (HF3.out.boxN bx1 (by omega)).cell 1 (by simp), (HF3.out.boxN bx1 (by omega)).cell 2 (by simp)⟩
      refine hK.out _ _ ⟨fun _ => hS4, ?_⟩
      clear hK K hS2
      try simp only [List.getElem_toArray, List.getElem_cons_succ, List.getElem_cons_zero, Act.put, List.setIfInBounds_toArray, List.set_cons_zero, List.set_cons_succ]
      refine anyU_ready (rs := [6, 11]) (by kernel_rfl) (by simp) ?_
      refine ReadyU.cons (i := 6) rfl (fun K hK => ?_) ?_
      case refine_1 =>
        simp only [List.getElem_toArray, List.getElem_cons_succ, List.getElem_cons_zero]
        refine ite_is (by rfl) ?_
        simp [go_sem]
        refine (clone_any _ N.ids _ _ _ (netIds (Net.turned G1.out HF3.out (by omega) (by omega))) (by have := HNN.out; rcases HNI.out with h | h <;> omega)).mono ?_
        rintro e W5 ⟨r5, rfl, hr5, hb5⟩
        have hg5 := grown_below hb5; clear hb5
        have hs5 := hg5.size
        have HF5 := Lib.hid (HF3.out.still hg5); clear HF3
        have TB5 := Lib.hid (BoxN.still TB3.out hg5); clear TB3
        obtain ⟨AVD, cVD, rfl, _, _⟩ := hr5.ints.dims
        have VD5 := Lib.hid (show IntS W5 W3.heap.size W5.heap.size (.slice AVD N.ids.length cVD) N.ids from hr5.ints); clear hr5
        have hS6 : W5.cell? ⟨w.heap.size, 0, none⟩ = some (.slice (some ⟨b1, o1, none⟩) N.ends.length c1) ∧ W5.cell? ⟨w.heap.size, 1, none⟩ = some (.slice A1' N.ids.length c1') ∧ W5.cell? ⟨w.heap.size, 2, none⟩ = some (.slice A1'' N.inputs.length c1'') := ⟨(HF5.out.boxN bx1 (by omega)).cell 0 (by simp), (HF5.out.boxN bx1 (by omega)).cell 1 (by simp), (HF5.out.boxN bx1 (by omega)).cell 2 (by simp)⟩
        refine hK.out _ _ ⟨fun _ => hS6, ?_⟩
        clear hK K hS4
        try simp only [List.getElem_toArray, List.getElem_cons_succ, List.getElem_cons_zero, Act.put, List.setIfInBounds_toArray, List.set_cons_zero, List.set_cons_succ]
        refine anyU_ready (rs := [9, 11]) (by kernel_rfl) (by simp) ?_
        refine ReadyU.cons (i := 9) rfl (fun K hK => ?_) ?_
        case refine_1 =>
          simp only [List.getElem_toArray, List.getElem_cons_succ, List.getElem_cons_zero]
          refine ite_is (by rfl) ?_
          simp [go_sem]
          refine (clone_any _ N.inputs _ _ _ (netIns (Net.turned G1.out HF5.out (by omega) (by omega))) (by have := HNN.out; rcases HNI.out with h | h <;> omega)).mono ?_
          rintro e W7 ⟨r7, rfl, hr7, hb7⟩
          have hg7 := grown_below hb7; clear hb7
          have hs7 := hg7.size
          have HF7 := Lib.hid (HF5.out.still hg7); clear HF5
          have TB7 := Lib.hid (BoxN.still TB5.out hg7); clear TB5
          have VD7 := Lib.hid (IntS.still VD5.out hg7 (by omega)); clear VD5
          obtain ⟨AVI, cVI, rfl, _, _⟩ := hr7.ints.dims
          have VI7 := Lib.hid (show IntS W7 W5.heap.size W7.heap.size (.slice AVI N.inputs.length cVI) N.inputs from hr7.ints); clear hr7
          have hS8 : W7.cell? ⟨w.heap.size, 0, none⟩ = some (.slice (some ⟨b1, o1, none⟩) N.ends.length c1) ∧ W7.cell? ⟨w.heap.size, 1, none⟩ = some (.slice A1' N.ids.length c1') ∧ W7.cell? ⟨w.heap.size, 2, none⟩ = some (.slice A1'' N.inputs.length c1'') := ⟨(HF7.out.boxN bx1 (by omega)).cell 0 (by simp), (HF7.out.boxN bx1 (by omega)).cell 1 (by simp), (HF7.out.boxN bx1 (by omega)).cell 2 (by simp)⟩
          refine hK.out _ _ ⟨fun _ => hS8, ?_⟩
          clear hK K hS6
          try simp only [List.getElem_toArray, List.getElem_cons_succ, List.getElem_cons_zero, Act.put, List.setIfInBounds_toArray, List.set_cons_zero, List.set_cons_succ]
          refine anyU_take (i := 10) (v := .agg #[.slice (some ⟨W1.heap.size, 0, none⟩) N.ends.length N.ends.length, .slice AVD N.ids.length cVD, .slice AVI N.inputs.length cVI]) rfl (by kernel_rfl) (by kernel_rfl) (by kernel_rfl) (fun _ _ _ ⟨_, _, h, _⟩ => by cases h) ⟨by rfl, fun w' hS' => (by obtain ⟨s1, s2, s3⟩ := hS'; go_simp)⟩ hS8 ?_
          simp only [List.getElem_toArray, List.getElem_cons_succ, List.getElem_cons_zero, Act.put, List.setIfInBounds_toArray, List.set_cons_zero, List.set_cons_succ]
          refine anyU_ready (rs := [11]) (by kernel_rfl) (by simp) ?_
          refine ReadyU.cons (i := 11) rfl (fun K hK => ?_) ?_
          case refine_1 =>
            simp only [List.getElem_toArray, List.getElem_cons_succ, List.getElem_cons_zero]
            refine ite_is (by rfl) ?_
            simp [go_sem]
            refine nameA ?_
            intro W9 HW9
            have hg9 : W7.grownBy W9 none := by rw [HW9.out]; exact grown_alloc _ _
            have OUT9 := Lib.hid (show BoxN W9 W7.heap.size #[.slice none 0 0, .slice none 0 0, .slice none 0 0] 31 by rw [HW9.out]; exact BoxN.new _ _ _)
            have hz9 : W7.heap.size < W9.heap.size := OUT9.out.lt
            clear HW9
            have hs9 := hg9.size
            have HF9 := Lib.hid (HF7.out.still hg9); clear HF7
            have TB9 := Lib.hid (BoxN.still TB7.out hg9); clear TB7
            have VD9 := Lib.hid (IntS.still VD7.out hg9 (by omega)); clear VD7
            have VI9 := Lib.hid (IntS.still VI7.out hg9 (by omega)); clear VI7
            have hS10 : W9.cell? ⟨w.heap.size, 0, none⟩ = some (.slice (some ⟨b1, o1, none⟩) N.ends.length c1) ∧ W9.cell? ⟨w.heap.size, 1, none⟩ = some (.slice A1' N.ids.length c1') ∧ W9.cell? ⟨w.heap.size, 2, none⟩ = some (.slice A1'' N.inputs.length c1'') := ⟨(HF9.out.boxN bx1 (by omega)).cell 0 (by simp), (HF9.out.boxN bx1 (by omega)).cell 1 (by simp), (HF9.out.boxN bx1 (by omega)).cell 2 (by simp)⟩
            refine hK.out _ _ ⟨fun _ => hS10, ?_⟩
            clear hK K hS8
            try simp only [List.getElem_toArray, List.getElem_cons_succ, List.getElem_cons_zero, Act.put, List.setIfInBounds_toArray, List.set_cons_zero, List.set_cons_succ]
            refine anyU_ready (rs := [12]) (by kernel_rfl) (by simp) ?_
            refine ReadyU.cons (i := 12) rfl (fun K hK => ?_) ?_
            case refine_1 =>
              simp only [List.getElem_toArray, List.getElem_cons_succ, List.getElem_cons_zero]
              refine ite_is (by rfl) ?_
              have kd0 : W9.cell? ⟨W7.heap.size, 0, none⟩ = some (.slice none 0 0) := OUT9.out.cell 0 (by simp)
              have kf0 := OUT9.out.frozen 0
              have kd1 : W9.cell? ⟨W7.heap.size, 1, none⟩ = some (.slice none 0 0) := OUT9.out.cell 1 (by simp)
              have kf1 := OUT9.out.frozen 1
              have kd2 : W9.cell? ⟨W7.heap.size, 2, none⟩ = some (.slice none 0 0) := OUT9.out.cell 2 (by simp)
              have kf2 := OUT9.out.frozen 2
              simp [go_sem, kd0, kf0, kd1, kf1, kd2, kf2]
              refine nameA ?_
              intro W11 HW11
              have hg11 : W9.grownBy W11 (some (W7.heap.size)) := by rw [HW11.out]; exact grownBy_setCell (p := ⟨W7.heap.size, 2, none⟩) (grownBy_setCell (p := ⟨W7.heap.size, 1, none⟩) (grown_set _ ⟨W7.heap.size, 0, none⟩ _) rfl _) rfl _
              have hs11 := hg11.size
              have HF11 := Lib.hid (HF9.out.grown hg11 (fun g e => .inr (by cases e; omega)))
              have TB11 := Lib.hid (BoxN.far TB9.out hg11 (fun g e => by cases e; omega)); clear TB9
              have VD11 := Lib.hid (IntS.far VD9.out hg11 (by omega) (fun g e => by cases e; omega)); clear VD9
              have VI11 := Lib.hid (IntS.far VI9.out hg11 (by omega) (fun g e => by cases e; omega)); clear VI9
              have OUT11 := Lib.hid (show BoxN W11 (W7.heap.size) #[.slice (some ⟨W1.heap.size, 0, none⟩) N.ends.length N.ends.length, .slice AVD N.ids.length cVD, .slice AVI N.inputs.length cVI] 31 by rw [HW11.out]; exact ((OUT9.out.set 0 _).set 1 _).set 2 _)
              clear HW11 kd0 kf0 kd1 kf1 kd2 kf2 OUT9
              have hS12 : W11.cell? ⟨w.heap.size, 0, none⟩ = some (.slice (some ⟨b1, o1, none⟩) N.ends.length c1) ∧ W11.cell? ⟨w.heap.size, 1, none⟩ = some (.slice A1' N.ids.length c1') ∧ W11.cell? ⟨w.heap.size, 2, none⟩ = some (.slice A1'' N.inputs.length c1'') := ⟨(HF11.out.boxN bx1 (by omega)).cell 0 (by simp), (HF11.out.boxN bx1 (by omega)).cell 1 (by simp), (HF11.out.boxN bx1 (by omega)).cell 2 (by simp)⟩
              refine hK.out _ _ ⟨fun _ => hS12, ?_⟩
              clear hK K hS10
              try simp only [List.getElem_toArray, List.getElem_cons_succ, List.getElem_cons_zero, Act.put, List.setIfInBounds_toArray, List.set_cons_zero, List.set_cons_succ]
              clear hS12
              refine anyU_done (by kernel_rfl) ?_ _
              exact ⟨[.pointer (some ⟨w.heap.size, 0, none⟩), .slice (some ⟨b1, o1, none⟩) N.ends.length c1, .int .i64 N.ends.length, .slice (some ⟨W1.heap.size, 0, none⟩) N.ends.length N.ends.length, .pointer (some ⟨w.heap.size, 1, none⟩), .slice A1' N.ids.length c1', .slice AVD N.ids.length cVD, .pointer (some ⟨w.heap.size, 2, none⟩), .slice A1'' N.inputs.length c1'', .slice AVI N.inputs.length cVI, .agg #[.slice (some ⟨W1.heap.size, 0, none⟩) N.ends.length N.ends.length, .slice AVD N.ids.length cVD, .slice AVI N.inputs.length cVI], .pointer (some ⟨W7.heap.size, 0, none⟩)], ⟨_, _, W3.heap.size, W5.heap.size, W5.heap.size, W7.heap.size, _, _, _, _, rfl, OUT11, Lib.hid (by rw [fillE_zero]; exact RN.made (rowIs_boxN TB11.out) (by unfold maxLen; omega) (by omega) (by omega) (by omega) (by omega) (by omega) (by omega) (by omega) (by omega) (by omega) (by omega) VD11.out VI11.out), by omega, by omega, HF11⟩, rfl, by simp only [puts, Act.put, List.setIfInBounds_toArray, List.set_cons_zero, List.set_cons_succ]⟩
            exact ReadyU.nil
          exact ReadyU.nil
        refine ReadyU.cons (i := 11) rfl (fun K hK => ?_) ?_
        case refine_1 =>
          simp only [List.getElem_toArray, List.getElem_cons_succ, List.getElem_cons_zero]
          refine ite_is (by rfl) ?_
          simp [go_sem]
          refine nameA ?_
          intro W13 HW13
          have hg13 : W5.grownBy W13 none := by rw [HW13.out]; exact grown_alloc _ _
          have OUT13 := Lib.hid (show BoxN W13 W5.heap.size #[.slice none 0 0, .slice none 0 0, .slice none 0 0] 31 by rw [HW13.out]; exact BoxN.new _ _ _)
          have hz13 : W5.heap.size < W13.heap.size := OUT13.out.lt
          clear HW13
          have hs13 := hg13.size
          have HF13 := Lib.hid (HF5.out.still hg13); clear HF5
          have TB13 := Lib.hid (BoxN.still TB5.out hg13); clear TB5
          have VD13 := Lib.hid (IntS.still VD5.out hg13 (by omega)); clear VD5
          have hS14 : W13.cell? ⟨w.heap.size, 0, none⟩ = some (.slice (some ⟨b1, o1, none⟩) N.ends.length c1) ∧ W13.cell? ⟨w.heap.size, 1, none⟩ = some (.slice A1' N.ids.length c1') ∧ W13.cell? ⟨w.heap.size, 2, none⟩ = some (.slice A1'' N.inputs.length c1'') := ⟨(HF13.out.boxN bx1 (by omega)).cell 0 (by simp), (HF13.out.boxN bx1 (by omega)).cell 1 (by simp), (HF13.out.boxN bx1 (by omega)).cell 2 (by simp)⟩
          refine hK.out _ _ ⟨fun _ => hS14, ?_⟩
          clear hK K hS6
          try simp only [List.getElem_toArray, List.getElem_cons_succ, List.getElem_cons_zero, Act.put, List.setIfInBounds_toArray, List.set_cons_zero, List.set_cons_succ]
          refine anyU_ready (rs := [9]) (by kernel_rfl) (by simp) ?_
          refine ReadyU.cons (i := 9) rfl (fun K hK => ?_) ?_
          case refine_1 =>
            simp only [List.getElem_toArray, List.getElem_cons_succ, List.getElem_cons_zero]
            refine ite_is (by rfl) ?_
            simp [go_sem]
            refine (clone_any _ N.inputs _ _ _ (netIns (Net.turned G1.out HF13.out (by omega) (by omega))) (by have := HNN.out; rcases HNI.out with h | h <;> omega)).mono ?_
            rintro e W15 ⟨r15, rfl, hr15, hb15⟩
            have hg15 := grown_below hb15; clear hb15
            have hs15 := hg15.size
            have HF15 := Lib.hid (HF13.out.still hg15); clear HF13
            have TB15 := Lib.hid (BoxN.still TB13.out hg15); clear TB13
            have VD15 := Lib.hid (IntS.still VD13.out hg15 (by omega)); clear VD13
            have OUT15 := Lib.hid (BoxN.still OUT13.out hg15); clear OUT13
            obtain ⟨AVI, cVI, rfl, _, _⟩ := hr15.ints.dims
            have VI15 := Lib.hid (show IntS W15 W13.heap.size W15.heap.size (.slice AVI N.inputs.length cVI) N.inputs from hr15.ints); clear hr15
            have hS16 : W15.cell? ⟨w.heap.size, 0, none⟩ = some (.slice (some ⟨b1, o1, none⟩) N.ends.length c1) ∧ W15.cell? ⟨w.heap.size, 1, none⟩ = some (.slice A1' N.ids.length c1') ∧ W15.cell? ⟨w.heap.size, 2, none⟩ = some (.slice A1'' N.inputs.length c1'') := ⟨(HF15.out.boxN bx1 (by omega)).cell 0 (by simp), (HF15.out.boxN bx1 (by omega)).cell 1 (by simp), (HF15.out.boxN bx1 (by omega)).cell 2 (by simp)⟩
            refine hK.out _ _ ⟨fun _ => hS16, ?_⟩
            clear hK K hS14
            try simp only [List.getElem_toArray, List.getElem_cons_succ, List.getElem_cons_zero, Act.put, List.setIfInBounds_toArray, List.set_cons_zero, List.set_cons_succ]
            refine anyU_take (i := 10) (v := .agg #[.slice (some ⟨W1.heap.size, 0, none⟩) N.ends.length N.ends.length, .slice AVD N.ids.length cVD, .slice AVI N.inputs.length cVI]) rfl (by kernel_rfl) (by kernel_rfl) (by kernel_rfl) (fun _ _ _ ⟨_, _, h, _⟩ => by cases h) ⟨by rfl, fun w' hS' => (by obtain ⟨s1, s2, s3⟩ := hS'; go_simp)⟩ hS16 ?_
            simp only [List.getElem_toArray, List.getElem_cons_succ, List.getElem_cons_zero, Act.put, List.setIfInBounds_toArray, List.set_cons_zero, List.set_cons_succ]
            refine anyU_ready (rs := [12]) (by kernel_rfl) (by simp) ?_
            refine ReadyU.cons (i := 12) rfl (fun K hK => ?_) ?_
            case refine_1 =>
              simp only [List.getElem_toArray, List.getElem_cons_succ, List.getElem_cons_zero]
              refine ite_is (by rfl) ?_
              have kd0 : W15.cell? ⟨W5.heap.size, 0, none⟩ = some (.slice none 0 0) := OUT15.out.cell 0 (by simp)
              have kf0 := OUT15.out.frozen 0
              have kd1 : W15.cell? ⟨W5.heap.size, 1, none⟩ = some (.slice none 0 0) := OUT15.out.cell 1 (by simp)
              have kf1 := OUT15.out.frozen 1
              have kd2 : W15.cell? ⟨W5.heap.size, 2, none⟩ = some (.slice none 0 0) := OUT15.out.cell 2 (by simp)
              have kf2 := OUT15.out.frozen 2
              simp [go_sem, kd0, kf0, kd1, kf1, kd2, kf2]
              refine nameA ?_
              intro W17 HW17
              have hg17 : W15.grownBy W17 (some (W5.heap.size)) := by rw [HW17.out]; exact grownBy_setCell (p := ⟨W5.heap.size, 2, none⟩) (grownBy_setCell (p := ⟨W5.heap.size, 1, none⟩) (grown_set _ ⟨W5.heap.size, 0, none⟩ _) rfl _) rfl _
              have hs17 := hg17.size
              have HF17 := Lib.hid (HF15.out.grown hg17 (fun g e => .inr (by cases e; omega)))
              have TB17 := Lib.hid (BoxN.far TB15.out hg17 (fun g e => by cases e; omega)); clear TB15
              have VD17 := Lib.hid (IntS.far VD15.out hg17 (by omega) (fun g e => by cases e; omega)); clear VD15
              have VI17 := Lib.hid (IntS.far VI15.out hg17 (by omega) (fun g e => by cases e; omega)); clear VI15
              have OUT17 := Lib.hid (show BoxN W17 (W5.heap.size) #[.slice (some ⟨W1.heap.size, 0, none⟩) N.ends.length N.ends.length, .slice AVD N.ids.length cVD, .slice AVI N.inputs.length cVI] 31 by rw [HW17.out]; exact ((OUT15.out.set 0 _).set 1 _).set 2 _)
              clear HW17 kd0 kf0 kd1 kf1 kd2 kf2 OUT15
              have hS18 : W17.cell? ⟨w.heap.size, 0, none⟩ = some (.slice (some ⟨b1, o1, none⟩) N.ends.length c1) ∧ W17.cell? ⟨w.heap.size, 1, none⟩ = some (.slice A1' N.ids.length c1') ∧ W17.cell? ⟨w.heap.size, 2, none⟩ = some (.slice A1'' N.inputs.length c1'') := ⟨(HF17.out.boxN bx1 (by omega)).cell 0 (by simp), (HF17.out.boxN bx1 (by omega)).cell 1 (by simp), (HF17.out.boxN bx1 (by omega)).cell 2 (by simp)⟩
              refine hK.out _ _ ⟨fun _ => hS18, ?_⟩
              clear hK K hS16
              try simp only [List.getElem_toArray, List.getElem_cons_succ, List.getElem_cons_zero, Act.put, List.setIfInBounds_toArray, List.set_cons_zero, List.set_cons_succ]
              clear hS18
              refine anyU_done (by kernel_rfl) ?_ _
              exact ⟨[.pointer (some ⟨w.heap.size, 0, none⟩), .slice (some ⟨b1, o1, none⟩) N.ends.length c1, .int .i64 N.ends.length, .slice (some ⟨W1.heap.size, 0, none⟩) N.ends.length N.ends.length, .pointer (some ⟨w.heap.size, 1, none⟩), .slice A1' N.ids.length c1', .slice AVD N.ids.length cVD, .pointer (some ⟨w.heap.size, 2, none⟩), .slice A1'' N.inputs.length c1'', .slice AVI N.inputs.length cVI, .agg #[.slice (some ⟨W1.heap.size, 0, none⟩) N.ends.length N.ends.length, .slice AVD N.ids.length cVD, .slice AVI N.inputs.length cVI], .pointer (some ⟨W5.heap.size, 0, none⟩)], ⟨_, _, W3.heap.size, W5.heap.size, W13.heap.size, W15.heap.size, _, _, _, _, rfl, OUT17, Lib.hid (by rw [fillE_zero]; exact RN.made (rowIs_boxN TB17.out) (by unfold maxLen; omega) (by omega) (by omega) (by omega) (by omega) (by omega) (by omega) (by omega) (by omega) (by omega) (by omega) VD17.out VI17.out), by omega, by omega, HF17⟩, rfl, by simp only [puts, Act.put, List.setIfInBounds_toArray, List.set_cons_zero, List.set_cons_succ]⟩
            exact ReadyU.nil
          exact ReadyU.nil
        exact ReadyU.nil
      refine ReadyU.cons (i := 11) rfl (fun K hK => ?_) ?_
      case refine_1 =>
        simp only [List.getElem_toArray, List.getElem_cons_succ, List.getElem_cons_zero]
        refine ite_is (by rfl) ?_
        simp [go_sem]
        refine nameA ?_
        intro W19 HW19
        have hg19 : W3.grownBy W19 none := by rw [HW19.out]; exact grown_alloc _ _
        have OUT19 := Lib.hid (show BoxN W19 W3.heap.size #[.slice none 0 0, .slice none 0 0, .slice none 0 0] 31 by rw [HW19.out]; exact BoxN.new _ _ _)
        have hz19 : W3.heap.size < W19.heap.size := OUT19.out.lt
        clear HW19
        have hs19 := hg19.size
        have HF19 := Lib.hid (HF3.out.still hg19); clear HF3
        have TB19 := Lib.hid (BoxN.still TB3.out hg19); clear TB3
        have hS20 : W19.cell? ⟨w.heap.size, 0, none⟩ = some (.slice (some ⟨b1, o1, none⟩) N.ends.length c1) ∧ W19.cell? ⟨w.heap.size, 1, none⟩ = some (.slice A1' N.ids.length c1') ∧ W19.cell? ⟨w.heap.size, 2, none⟩ = some (.slice A1'' N.inputs.length c1'') := ⟨(HF19.out.boxN bx1 (by omega)).cell 0 (by simp), (HF19.out.boxN bx1 (by omega)).cell 1 (by simp), (HF19.out.boxN bx1 (by omega)).cell 2 (by simp)⟩
        refine hK.out _ _ ⟨fun _ => hS20, ?_⟩
        clear hK K hS4
        try simp only [List.getElem_toArray, List.getElem_cons_succ, List.getElem_cons_zero, Act.put, List.setIfInBounds_toArray, List.set_cons_zero, List.set_cons_succ]
        refine anyU_ready (rs := [6]) (by kernel_rfl) (by simp) ?_
        refine ReadyU.cons (i := 6) rfl (fun K hK => ?_) ?_
        case refine_1 =>
          simp only [List.getElem_toArray, List.getElem_cons_succ, List.getElem_cons_zero]
          refine ite_is (by rfl) ?_
          simp [go_sem]
          refine (clone_any _ N.ids _ _ _ (netIds (Net.turned G1.out HF19.out (by omega) (by omega))) (by have := HNN.out; rcases HNI.out with h | h <;> omega)).mono ?_
          rintro e W21 ⟨r21, rfl, hr21, hb21⟩
          have hg21 := grown_below hb21; clear hb21
          have hs21 := hg21.size
          have HF21 := Lib.hid (HF19.out.still hg21); clear HF19
          have TB21 := Lib.hid (BoxN.still TB19.out hg21); clear TB19
          have OUT21 := Lib.hid (BoxN.still OUT19.out hg21); clear OUT19
          obtain ⟨AVD, cVD, rfl, _, _⟩ := hr21.ints.dims
          have VD21 := Lib.hid (show IntS W21 W19.heap.size W21.heap.size (.slice AVD N.ids.length cVD) N.ids from hr21.ints); clear hr21
          have hS22 : W21.cell? ⟨w.heap.size, 0, none⟩ = some (.slice (some ⟨b1, o1, none⟩) N.ends.length c1) ∧ W21.cell? ⟨w.heap.size, 1, none⟩ = some (.slice A1' N.ids.length c1') ∧ W21.cell? ⟨w.heap.size, 2, none⟩ = some (.slice A1'' N.inputs.length c1'') := ⟨(HF21.out.boxN bx1 (by omega)).cell 0 (by simp), (HF21.out.boxN bx1 (by omega)).cell 1 (by simp), (HF21.out.boxN bx1 (by omega)).cell 2 (by simp)⟩
          refine hK.out _ _ ⟨fun _ => hS22, ?_⟩
          clear hK K hS20
          try simp only [List.getElem_toArray, List.getElem_cons_succ, List.getElem_cons_zero, Act.put, List.setIfInBounds_toArray, List.set_cons_zero, List.set_cons_succ]
          refine anyU_ready (rs := [9]) (by kernel_rfl) (by simp) ?_
          refine ReadyU.cons (i := 9) rfl (fun K hK => ?_) ?_
          case refine_1 =>
            simp only [List.getElem_toArray, List.getElem_cons_succ, List.getElem_cons_zero]
            refine ite_is (by rfl) ?_
            simp [go_sem]
            refine (clone_any _ N.inputs _ _ _ (netIns (Net.turned G1.out HF21.out (by omega) (by omega))) (by have := HNN.out; rcases HNI.out with h | h <;> omega)).mono ?_
            rintro e W23 ⟨r23, rfl, hr23, hb23⟩
            have hg23 := grown_below hb23; clear hb23
            have hs23 := hg23.size
            have HF23 := Lib.hid (HF21.out.still hg23); clear HF21
            have TB23 := Lib.hid (BoxN.still TB21.out hg23); clear TB21
            have OUT23 := Lib.hid (BoxN.still OUT21.out hg23); clear OUT21
            have VD23 := Lib.hid (IntS.still VD21.out hg23 (by omega)); clear VD21
            obtain ⟨AVI, cVI, rfl, _, _⟩ := hr23.ints.dims
            have VI23 := Lib.hid (show IntS W23 W21.heap.size W23.heap.size (.slice AVI N.inputs.length cVI) N.inputs from hr23.ints); clear hr23
            have hS24 : W23.cell? ⟨w.heap.size, 0, none⟩ = some (.slice (some ⟨b1, o1, none⟩) N.ends.length c1) ∧ W23.cell? ⟨w.heap.size, 1, none⟩ = some (.slice A1' N.ids.length c1') ∧ W23.cell? ⟨w.heap.size, 2, none⟩ = some (.slice A1'' N.inputs.length c1'') := ⟨(HF23.out.boxN bx1 (by omega)).cell 0 (by simp), (HF23.out.boxN bx1 (by omega)).cell 1 (by simp), (HF23.out.boxN bx1 (by omega)).cell 2 (by simp)⟩
            refine hK.out _ _ ⟨fun _ => hS24, ?_⟩
            clear hK K hS22
            try simp only [List.getElem_toArray, List.getElem_cons_succ, List.getElem_cons_zero, Act.put, List.setIfInBounds_toArray, List.set_cons_zero, List.set_cons_succ]
            refine anyU_take (i := 10) (v := .agg #[.slice (some ⟨W1.heap.size, 0, none⟩) N.ends.length N.ends.length, .slice AVD N.ids.length cVD, .slice AVI N.inputs.length cVI]) rfl (by kernel_rfl) (by kernel_rfl) (by kernel_rfl) (fun _ _ _ ⟨_, _, h, _⟩ => by cases h) ⟨by rfl, fun w' hS' => (by obtain ⟨s1, s2, s3⟩ := hS'; go_simp)⟩ hS24 ?_
            simp only [List.getElem_toArray, List.getElem_cons_succ, List.getElem_cons_zero, Act.put, List.setIfInBounds_toArray, List.set_cons_zero, List.set_cons_succ]
            refine anyU_ready (rs := [12]) (by kernel_rfl) (by simp) ?_
            refine ReadyU.cons (i := 12) rfl (fun K hK => ?_) ?_
            case refine_1 =>
              simp only [List.getElem_toArray, List.getElem_cons_succ, List.getElem_cons_zero]
              refine ite_is (by rfl) ?_
              have kd0 : W23.cell? ⟨W3.heap.size, 0, none⟩ = some (.slice none 0 0) := OUT23.out.cell 0 (by simp)
              have kf0 := OUT23.out.frozen 0
              have kd1 : W23.cell? ⟨W3.heap.size, 1, none⟩ = some (.slice none 0 0) := OUT23.out.cell 1 (by simp)
              have kf1 := OUT23.out.frozen 1
              have kd2 : W23.cell? ⟨W3.heap.size, 2, none⟩ = some (.slice none 0 0) := OUT23.out.cell 2 (by simp)
              have kf2 := OUT23.out.frozen 2
              simp [go_sem, kd0, kf0, kd1, kf1, kd2, kf2]
              refine nameA ?_
              intro W25 HW25
              have hg25 : W23.grownBy W25 (some (W3.heap.size)) := by rw [HW25.out]; exact grownBy_setCell (p := ⟨W3.heap.size, 2, none⟩) (grownBy_setCell (p := ⟨W3.heap.size, 1, none⟩) (grown_set _ ⟨W3.heap.size, 0, none⟩ _) rfl _) rfl _
              have hs25 := hg25.size
              have HF25 := Lib.hid (HF23.out.grown hg25 (fun g e => .inr (by cases e; omega)))
              have TB25 := Lib.hid (BoxN.far TB23.out hg25 (fun g e => by cases e; omega)); clear TB23
              have VD25 := Lib.hid (IntS.far VD23.out hg25 (by omega) (fun g e => by cases e; omega)); clear VD23
              have VI25 := Lib.hid (IntS.far VI23.out hg25 (by omega) (fun g e => by cases e; omega)); clear VI23
              have OUT25 := Lib.hid (show BoxN W25 (W3.heap.size) #[.slice (some ⟨W1.heap.size, 0, none⟩) N.ends.length N.ends.length, .slice AVD N.ids.length cVD, .slice AVI N.inputs.length cVI] 31 by rw [HW25.out]; exact ((OUT23.out.set 0 _).set 1 _).set 2 _)
              clear HW25 kd0 kf0 kd1 kf1 kd2 kf2 OUT23
              have hS26 : W25.cell? ⟨w.heap.size, 0, none⟩ = some (.slice (some ⟨b1, o1, none⟩) N.ends.length c1) ∧ W25.cell? ⟨w.heap.size, 1, none⟩ = some (.slice A1' N.ids.length c1') ∧ W25.cell? ⟨w.heap.size, 2, none⟩ = some (.slice A1'' N.inputs.length c1'') := ⟨(HF25.out.boxN bx1 (by omega)).cell 0 (by simp), (HF25.out.boxN bx1 (by omega)).cell 1 (by simp), (HF25.out.boxN bx1 (by omega)).cell 2 (by simp)⟩
              refine hK.out _ _ ⟨fun _ => hS26, ?_⟩
              clear hK K hS24
              try simp only [List.getElem_toArray, List.getElem_cons_succ, List.getElem_cons_zero, Act.put, List.setIfInBounds_toArray, List.set_cons_zero, List.set_cons_succ]
              clear hS26
              refine anyU_done (by kernel_rfl) ?_ _
              exact ⟨[.pointer (some ⟨w.heap.size, 0, none⟩), .slice (some ⟨b1, o1, none⟩) N.ends.length c1, .int .i64 N.ends.length, .slice (some ⟨W1.heap.size, 0, none⟩) N.ends.length N.ends.length, .pointer (some ⟨w.heap.size, 1, none⟩), .slice A1' N.ids.length c1', .slice AVD N.ids.length cVD, .pointer (some ⟨w.heap.size, 2, none⟩), .slice A1'' N.inputs.length c1'', .slice AVI N.inputs.length cVI, .agg #[.slice (some ⟨W1.heap.size, 0, none⟩) N.ends.length N.ends.length, .slice AVD N.ids.length cVD, .slice AVI N.inputs.length cVI], .pointer (some ⟨W3.heap.size, 0, none⟩)], ⟨_, _, W19.heap.size, W21.heap.size, W21.heap.size, W23.heap.size, _, _, _, _, rfl, OUT25, Lib.hid (by rw [fillE_zero]; exact RN.made (rowIs_boxN TB25.out) (by unfold maxLen; omega) (by omega) (by omega) (by omega) (by omega) (by omega) (by omega) (by omega) (by omega) (by omega) (by omega) VD25.out VI25.out), by omega, by omega, HF25⟩, rfl, by simp only [puts, Act.put, List.setIfInBounds_toArray, List.set_cons_zero, List.set_cons_succ]⟩
            exact ReadyU.nil
          exact ReadyU.nil
        exact ReadyU.nil
      exact ReadyU.nil
    refine ReadyU.cons (i := 6) rfl (fun K hK => ?_) ?_
    case refine_1 =>
      simp only [List.getElem_toArray, List.getElem_cons_succ, List.getElem_cons_zero]
      refine ite_is (by rfl) ?_
      simp [go_sem]
      refine (clone_any _ N.ids _ _ _ (netIds (Net.turned G1.out HF1.out (by omega) (by omega))) (by have := HNN.out; rcases HNI.out with h | h <;> omega)).mono ?_
      rintro e W27 ⟨r27, rfl, hr27, hb27⟩
      have hg27 := grown_below hb27; clear hb27
      have hs27 := hg27.size
      have HF27 := Lib.hid (HF1.out.still hg27); clear HF1
      obtain ⟨AVD, cVD, rfl, _, _⟩ := hr27.ints.dims
      have VD27 := Lib.hid (show IntS W27 W1.heap.size W27.heap.size (.slice AVD N.ids.length cVD) N.ids from hr27.ints); clear hr27
      have hS28 : W27.cell? ⟨w.heap.size, 0, none⟩ = some (.slice (some ⟨b1, o1, none⟩) N.ends.length c1) ∧ W27.cell? ⟨w.heap.size, 1, none⟩ = some (.slice A1' N.ids.length c1') ∧ W27.cell? ⟨w.heap.size, 2, none⟩ = some (.slice A1'' N.inputs.length c1'') := ⟨(HF27.out.boxN bx1 (by omega)).cell 0 (by simp), (HF27.out.boxN bx1 (by omega)).cell 1 (by simp), (HF27.out.boxN bx1 (by omega)).cell 2 (by simp)⟩
      refine hK.out _ _ ⟨fun _ => hS28, ?_⟩
      clear hK K hS2
      try simp only [List.getElem_toArray, List.getElem_cons_succ, List.getElem_cons_zero, Act.put, List.setIfInBounds_toArray, List.set_cons_zero, List.set_cons_succ]
      refine anyU_ready (rs := [3, 9, 11]) (by kernel_rfl) (by simp) ?_
      refine ReadyU.cons (i := 3) rfl (fun K hK => ?_) ?_
      case refine_1 =>
        simp only [List.getElem_toArray, List.getElem_cons_succ, List.getElem_cons_zero]
        refine ite_is (by rfl) ?_
        have hmk := HMK.out
        simp [go_sem, hmk]
        clear hmk
        refine nameA ?_
        intro W29 HW29
        have hg29 : W27.grownBy W29 none := by rw [HW29.out]; exact grown_alloc _ _
        have TB29 := Lib.hid (show BoxN W29 W27.heap.size (madeCells #[.slice none 0 0] N.ends.length) 54 by rw [HW29.out]; exact BoxN.new _ _ _)
        have hz29 : W27.heap.size < W29.heap.size := TB29.out.lt
        clear HW29
        have hs29 := hg29.size
        have HF29 := Lib.hid (HF27.out.still hg29); clear HF27
        have VD29 := Lib.hid (IntS.still VD27.out hg29 (by omega)); clear VD27
        have hS30 : W29.cell? ⟨w.heap.size, 0, none⟩ = some (.slice (some ⟨b1, o1, none⟩) N.ends.length c1) ∧ W29.cell? ⟨w.heap.size, 1, none⟩ = some (.slice A1' N.ids.length c1') ∧ W29.cell? ⟨w.heap.size, 2, none⟩ = some (.slice A1'' N.inputs.length c1'') := ⟨(HF29.out.boxN bx1 (by omega)).cell 0 (by simp), (HF29.out.boxN bx1 (by omega)).cell 1 (by simp), (HF29.out.boxN bx1 (by omega)).cell 2 (by simp)⟩
        refine hK.out _ _ ⟨fun _ => hS30, ?_⟩
        clear hK K hS28
        try simp only [List.getElem_toArray, List.getElem_cons_succ, List.getElem_cons_zero, Act.put, List.setIfInBounds_toArray, List.set_cons_zero, List.set_cons_succ]
        refine anyU_ready (rs := [9, 11]) (by kernel_rfl) (by simp) ?_
        refine ReadyU.cons (i := 9) rfl (fun K hK => ?_) ?_
        case refine_1 =>
          simp only [List.getElem_toArray, List.getElem_cons_succ, List.getElem_cons_zero]
          refine ite_is (by rfl) ?_
          simp [go_sem]
          refine (clone_any _ N.inputs _ _ _ (netIns (Net.turned G1.out HF29.out (by omega) (by omega))) (by have := HNN.out; rcases HNI.out with h | h <;> omega)).mono ?_
          rintro e W31 ⟨r31, rfl, hr31, hb31⟩
          have hg31 := grown_below hb31; clear hb31
          have hs31 := hg31.size
          have HF31 := Lib.hid (HF29.out.still hg31); clear HF29
          have VD31 := Lib.hid (IntS.still VD29.out hg31 (by omega)); clear VD29
          have TB31 := Lib.hid (BoxN.still TB29.out hg31); clear TB29
          obtain ⟨AVI, cVI, rfl, _, _⟩ := hr31.ints.dims
          have VI31 := Lib.hid (show IntS W31 W29.heap.size W31.heap.size (.slice AVI N.inputs.length cVI) N.inputs from hr31.ints); clear hr31
          have hS32 : W31.cell? ⟨w.heap.size, 0, none⟩ = some (.slice (some ⟨b1, o1, none⟩) N.ends.length c1) ∧ W31.cell? ⟨w.heap.size, 1, none⟩ = some (.slice A1' N.ids.length c1') ∧ W31.cell? ⟨w.heap.size, 2, none⟩ = some (.slice A1'' N.inputs.length c1'') := ⟨(HF31.out.boxN bx1 (by omega)).cell 0 (by simp), (HF31.out.boxN bx1 (by omega)).cell 1 (by simp), (HF31.out.boxN bx1 (by omega)).cell 2 (by simp)⟩
          refine hK.out _ _ ⟨fun _ => hS32, ?_⟩
          clear hK K hS30
          try simp only [List.getElem_toArray, List.getElem_cons_succ, List.getElem_cons_zero, Act.put, List.setIfInBounds_toArray, List.set_cons_zero, List.set_cons_succ]
          refine anyU_take (i := 10) (v := .agg #[.slice (some ⟨W27.heap.size, 0, none⟩) N.ends.length N.ends.length, .slice AVD N.ids.length cVD, .slice AVI N.inputs.length cVI]) rfl (by kernel_rfl) (by kernel_rfl) (by kernel_rfl) (fun _ _ _ ⟨_, _, h, _⟩ => by cases h) ⟨by rfl, fun w' hS' => (by obtain ⟨s1, s2, s3⟩ := hS'; go_simp)⟩ hS32 ?_
          simp only [List.getElem_toArray, List.getElem_cons_succ, List.getElem_cons_zero, Act.put, List.setIfInBounds_toArray, List.set_cons_zero, List.set_cons_succ]
          refine anyU_ready (rs := [11]) (by kernel_rfl) (by simp) ?_
          refine ReadyU.cons (i := 11) rfl (fun K hK => ?_) ?_
          case refine_1 =>
            simp only [List.getElem_toArray, List.getElem_cons_succ, List.getElem_cons_zero]
            refine ite_is (by rfl) ?_
            simp [go_sem]
            refine nameA ?_
            intro W33 HW33
            have hg33 : W31.grownBy W33 none := by rw [HW33.out]; exact grown_alloc _ _
            have OUT33 := Lib.hid (show BoxN W33 W31.heap.size #[.slice none 0 0, .slice none 0 0, .slice none 0 0] 31 by rw [HW33.out]; exact BoxN.new _ _ _)
            have hz33 : W31.heap.size < W33.heap.size := OUT33.out.lt
            clear HW33
            have hs33 := hg33.size
            have HF33 := Lib.hid (HF31.out.still hg33); clear HF31
            have VD33 := Lib.hid (IntS.still VD31.out hg33 (by omega)); clear VD31
            have TB33 := Lib.hid (BoxN.still TB31.out hg33); clear TB31
            have VI33 := Lib.hid (IntS.still VI31.out hg33 (by omega)); clear VI31
            have hS34 : W33.cell? ⟨w.heap.size, 0, none⟩ = some (.slice (some ⟨b1, o1, none⟩) N.ends.length c1) ∧ W33.cell? ⟨w.heap.size, 1, none⟩ = some (.slice A1' N.ids.length c1') ∧ W33.cell? ⟨w.heap.size, 2, none⟩ = some (.slice A1'' N.inputs.length c1'') := ⟨(HF33.out.boxN bx1 (by omega)).cell 0 (by simp), (HF33.out.boxN bx1 (by omega)).cell 1 (by simp), (HF33.out.boxN bx1 (by omega)).cell 2 (by simp)⟩
            refine hK.out _ _ ⟨fun _ => hS34, ?_⟩
            clear hK K hS32
            try simp only [List.getElem_toArray, List.getElem_cons_succ, List.getElem_cons_zero, Act.put, List.setIfInBounds_toArray, List.set_cons_zero, List.set_cons_succ]
            refine anyU_ready (rs := [12]) (by kernel_rfl) (by simp) ?_
            refine ReadyU.cons (i := 12) rfl (fun K hK => ?_) ?_
            case refine_1 =>
              simp only [List.getElem_toArray, List.getElem_cons_succ, List.getElem_cons_zero]
              refine ite_is (by rfl) ?_
              have kd0 : W33.cell? ⟨W31.heap.size, 0, none⟩ = some (.slice none 0 0) := OUT33.out.cell 0 (by simp)
              have kf0 := OUT33.out.frozen 0
              have kd1 : W33.cell? ⟨W31.heap.size, 1, none⟩ = some (.slice none 0 0) := OUT33.out.cell 1 (by simp)
              have kf1 := OUT33.out.frozen 1
              have kd2 : W33.cell? ⟨W31.heap.size, 2, none⟩ = some (.slice none 0 0) := OUT33.out.cell 2 (by simp)
              have kf2 := OUT33.out.frozen 2
              simp [go_sem, kd0, kf0, kd1, kf1, kd2, kf2]
              refine nameA ?_
              intro W35 HW35
              have hg35 : W33.grownBy W35 (some (W31.heap.size)) := by rw [HW35.out]; exact grownBy_setCell (p := ⟨W31.heap.size, 2, none⟩) (grownBy_setCell (p := ⟨W31.heap.size, 1, none⟩) (grown_set _ ⟨W31.heap.size, 0, none⟩ _) rfl _) rfl _
              have hs35 := hg35.size
              have HF35 := Lib.hid (HF33.out.grown hg35 (fun g e => .inr (by cases e; omega)))
              have VD35 := Lib.hid (IntS.far VD33.out hg35 (by omega) (fun g e => by cases e; omega)); clear VD33
              have TB35 := Lib.hid (BoxN.far TB33.out hg35 (fun g e => by cases e; omega)); clear TB33
              have VI35 := Lib.hid (IntS.far VI33.out hg35 (by omega) (fun g e => by cases e; omega)); clear VI33
              have OUT35 := Lib.hid (show BoxN W35 (W31.heap.size) #[.slice (some ⟨W27.heap.size, 0, none⟩) N.ends.length N.ends.length, .slice AVD N.ids.length cVD, .slice AVI N.inputs.length cVI] 31 by rw [HW35.out]; exact ((OUT33.out.set 0 _).set 1 _).set 2 _)
              clear HW35 kd0 kf0 kd1 kf1 kd2 kf2 OUT33
              have hS36 : W35.cell? ⟨w.heap.size, 0, none⟩ = some (.slice (some ⟨b1, o1, none⟩) N.ends.length c1) ∧ W35.cell? ⟨w.heap.size, 1, none⟩ = some (.slice A1' N.ids.length c1') ∧ W35.cell? ⟨w.heap.size, 2, none⟩ = some (.slice A1'' N.inputs.length c1'') := ⟨(HF35.out.boxN bx1 (by omega)).cell 0 (by simp), (HF35.out.boxN bx1 (by omega)).cell 1 (by simp), (HF35.out.boxN bx1 (by omega)).cell 2 (by simp)⟩
              refine hK.out _ _ ⟨fun _ => hS36, ?_⟩
              clear hK K hS34
              try simp only [List.getElem_toArray, List.getElem_cons_succ, List.getElem_cons_zero, Act.put, List.setIfInBounds_toArray, List.set_cons_zero, List.set_cons_succ]
              clear hS36
              refine anyU_done (by kernel_rfl) ?_ _
              exact ⟨[.pointer (some ⟨w.heap.size, 0, none⟩), .slice (some ⟨b1, o1, none⟩) N.ends.length c1, .int .i64 N.ends.length, .slice (some ⟨W27.heap.size, 0, none⟩) N.ends.length N.ends.length, .pointer (some ⟨w.heap.size, 1, none⟩), .slice A1' N.ids.length c1', .slice AVD N.ids.length cVD, .pointer (some ⟨w.heap.size, 2, none⟩), .slice A1'' N.inputs.length c1'', .slice AVI N.inputs.length cVI, .agg #[.slice (some ⟨W27.heap.size, 0, none⟩) N.ends.length N.ends.length, .slice AVD N.ids.length cVD, .slice AVI N.inputs.length cVI], .pointer (some ⟨W31.heap.size, 0, none⟩)], ⟨_, _, W1.heap.size, W27.heap.size, W29.heap.size, W31.heap.size, _, _, _, _, rfl, OUT35, Lib.hid (by rw [fillE_zero]; exact RN.made (rowIs_boxN TB35.out) (by unfold maxLen; omega) (by omega) (by omega) (by omega) (by omega) (by omega) (by omega) (by omega) (by omega) (by omega) (by omega) VD35.out VI35.out), by omega, by omega, HF35⟩, rfl, by simp only [puts, Act.put, List.setIfInBounds_toArray, List.set_cons_zero, List.set_cons_succ]⟩
            exact ReadyU.nil
          exact ReadyU.nil
        refine ReadyU.cons (i := 11) rfl (fun K hK => ?_) ?_
        case refine_1 =>
          simp only [List.getElem_toArray, List.getElem_cons_succ, List.getElem_cons_zero]
          refine ite_is (by rfl) ?_
          simp [go_sem]
          refine nameA ?_
          intro W37 HW37
          have hg37 : W29.grownBy W37 none := by rw [HW37.out]; exact grown_alloc _ _
          have OUT37 := Lib.hid (show BoxN W37 W29.heap.size #[.slice none 0 0, .slice none 0 0, .slice none 0 0] 31 by rw [HW37.out]; exact BoxN.new _ _ _)
          have hz37 : W29.heap.size < W37.heap.size := OUT37.out.lt
          clear HW37
          have hs37 := hg37.size
          have HF37 := Lib.hid (HF29.out.still hg37); clear HF29
          have VD37 := Lib.hid (IntS.still VD29.out hg37 (by omega)); clear VD29
          have TB37 := Lib.hid (BoxN.still TB29.out hg37); clear TB29
          have hS38 : W37.cell? ⟨w.heap.size, 0, none⟩ = some (.slice (some ⟨b1, o1, none⟩) N.ends.length c1) ∧ W37.cell? ⟨w.heap.size, 1, none⟩ = some (.slice A1' N.ids.length c1') ∧ W37.cell? ⟨w.heap.size, 2, none⟩ = some (.slice A1'' N.inputs.length c1'') := ⟨(HF37.out.boxN bx1 (by omega)).cell 0 (by simp), (HF37.out.boxN bx1 (by omega)).cell 1 (by simp), (HF37.out.boxN bx1 (by omega)).cell 2 (by simp)⟩
          refine hK.out _ _ ⟨fun _ => hS38, ?_⟩
          clear hK K hS30
          try simp only [List.getElem_toArray, List.getElem_cons_succ, List.getElem_cons_zero, Act.put, List.setIfInBounds_toArray, List.set_cons_zero, List.set_cons_succ]
          refine anyU_ready (rs := [9]) (by kernel_rfl) (by simp) ?_
          refine ReadyU.cons (i := 9) rfl (fun K hK => ?_) ?_
          case refine_1 =>
            simp only [List.getElem_toArray, List.getElem_cons_succ, List.getElem_cons_zero]
            refine ite_is (by rfl) ?_
            simp [go_sem]
            refine (clone_any _ N.inputs _ _ _ (netIns (Net.turned G1.out HF37.out (by omega) (by omega))) (by have := HNN.out; rcases HNI.out with h | h <;> omega)).mono ?_
            rintro e W39 ⟨r39, rfl, hr39, hb39⟩
            have hg39 := grown_below hb39; clear hb39
            have hs39 := hg39.size
            have HF39 := Lib.hid (HF37.out.still hg39); clear HF37
            have VD39 := Lib.hid (IntS.still VD37.out hg39 (by omega)); clear VD37
            have TB39 := Lib.hid (BoxN.still TB37.out hg39); clear TB37
            have OUT39 := Lib.hid (BoxN.still OUT37.out hg39); clear OUT37
            obtain ⟨AVI, cVI, rfl, _, _⟩ := hr39.ints.dims
            have VI39 := Lib.hid (show IntS W39 W37.heap.size W39.heap.size (.slice AVI N.inputs.length cVI) N.inputs from hr39.ints); clear hr39
            have hS40 : W39.cell? ⟨w.heap.size, 0, none⟩ = some (.slice (some ⟨b1, o1, none⟩) N.ends.length c1) ∧ W39.cell? ⟨w.heap.size, 1, none⟩ = some (.slice A1' N.ids.length c1') ∧ W39.cell? ⟨w.heap.size, 2, none⟩ = some (.slice A1'' N.inputs.length c1'') := ⟨(HF39.out.boxN bx1 (by omega)).cell 0 (by simp), (HF39.out.boxN bx1 (by omega)).cell 1 (by simp), (HF39.out.boxN bx1 (by omega)).cell 2 (by simp)⟩
            refine hK.out _ _ ⟨fun _ => hS40, ?_⟩
            clear hK K hS38
            try simp only [List.getElem_toArray, List.getElem_cons_succ, List.getElem_cons_zero, Act.put, List.setIfInBounds_toArray, List.set_cons_zero, List.set_cons_succ]
            refine anyU_take (i := 10) (v := .agg #[.slice (some ⟨W27.heap.size, 0, none⟩) N.ends.length N.ends.length, .slice AVD N.ids.length cVD, .slice AVI N.inputs.length cVI]) rfl (by kernel_rfl) (by kernel_rfl) (by kernel_rfl) (fun _ _ _ ⟨_, _, h, _⟩ => by cases h) ⟨by rfl, fun w' hS' => (by obtain ⟨s1, s2, s3⟩ := hS'; go_simp)⟩ hS40 ?_
            simp only [List.getElem_toArray, List.getElem_cons_succ, List.getElem_cons_zero, Act.put, List.setIfInBounds_toArray, List.set_cons_zero, List.set_cons_succ]
            refine anyU_ready (rs := [12]) (by kernel_rfl) (by simp) ?_
            refine ReadyU.cons (i := 12) rfl (fun K hK => ?_) ?_
            case refine_1 =>
              simp only [List.getElem_toArray, List.getElem_cons_succ, List.getElem_cons_zero]
              refine ite_is (by rfl) ?_
              have kd0 : W39.cell? ⟨W29.heap.size, 0, none⟩ = some (.slice none 0 0) := OUT39.out.cell 0 (by simp)
              have kf0 := OUT39.out.frozen 0
              have kd1 : W39.cell? ⟨W29.heap.size, 1, none⟩ = some (.slice none 0 0) := OUT39.out.cell 1 (by simp)
              have kf1 := OUT39.out.frozen 1
              have kd2 : W39.cell? ⟨W29.heap.size, 2, none⟩ = some (.slice none 0 0) := OUT39.out.cell 2 (by simp)
              have kf2 := OUT39.out.frozen 2
              simp [go_sem, kd0, kf0, kd1, kf1, kd2, kf2]
              refine nameA ?_
              intro W41 HW41
              have hg41 : W39.grownBy W41 (some (W29.heap.size)) := by rw [HW41.out]; exact grownBy_setCell (p := ⟨W29.heap.size, 2, none⟩) (grownBy_setCell (p := ⟨W29.heap.size, 1, none⟩) (grown_set _ ⟨W29.heap.size, 0, none⟩ _) rfl _) rfl _
              have hs41 := hg41.size
              have HF41 := Lib.hid (HF39.out.grown hg41 (fun g e => .inr (by cases e; omega)))
              have VD41 := Lib.hid (IntS.far VD39.out hg41 (by omega) (fun g e => by cases e; omega)); clear VD39
              have TB41 := Lib.hid (BoxN.far TB39.out hg41 (fun g e => by cases e; omega)); clear TB39
              have VI41 := Lib.hid (IntS.far VI39.out hg41 (by omega) (fun g e => by cases e; omega)); clear VI39
              have OUT41 := Lib.hid (show BoxN W41 (W29.heap.size) #[.slice (some ⟨W27.heap.size, 0, none⟩) N.ends.length N.ends.length, .slice AVD N.ids.length cVD, .slice AVI N.inputs.length cVI] 31 by rw [HW41.out]; exact ((OUT39.out.set 0 _).set 1 _).set 2 _)
              clear HW41 kd0 kf0 kd1 kf1 kd2 kf2 OUT39
              have hS42 : W41.cell? ⟨w.heap.size, 0, none⟩ = some (.slice (some ⟨b1, o1, none⟩) N.ends.length c1) ∧ W41.cell? ⟨w.heap.size, 1, none⟩ = some (.slice A1' N.ids.length c1') ∧ W41.cell? ⟨w.heap.size, 2, none⟩ = some (.slice A1'' N.inputs.length c1'') := ⟨(HF41.out.boxN bx1 (by omega)).cell 0 (by simp), (HF41.out.boxN bx1 (by omega)).cell 1 (by simp), (HF41.out.boxN bx1 (by omega)).cell 2 (by simp)⟩
              refine hK.out _ _ ⟨fun _ => hS42, ?_⟩
              clear hK K hS40
              try simp only [List.getElem_toArray, List.getElem_cons_succ, List.getElem_cons_zero, Act.put, List.setIfInBounds_toArray, List.set_cons_zero, List.set_cons_succ]
              clear hS42
              refine anyU_done (by kernel_rfl) ?_ _
              exact ⟨[.pointer (some ⟨w.heap.size, 0, none⟩), .slice (some ⟨b1, o1, none⟩) N.ends.length c1, .int .i64 N.ends.length, .slice (some ⟨W27.heap.size, 0, none⟩) N.ends.length N.ends.length, .pointer (some ⟨w.heap.size, 1, none⟩), .slice A1' N.ids.length c1', .slice AVD N.ids.length cVD, .pointer (some ⟨w.heap.size, 2, none⟩), .slice A1'' N.inputs.length c1'', .slice AVI N.inputs.length cVI, .agg #[.slice (some ⟨W27.heap.size, 0, none⟩) N.ends.length N.ends.length, .slice AVD N.ids.length cVD, .slice AVI N.inputs.length cVI], .pointer (some ⟨W29.heap.size, 0, none⟩)], ⟨_, _, W1.heap.size, W27.heap.size, W37.heap.size, W39.heap.size, _, _, _, _, rfl, OUT41, Lib.hid (by rw [fillE_zero]; exact RN.made (rowIs_boxN TB41.out) (by unfold maxLen; omega) (by omega) (by omega) (by omega) (by omega) (by omega) (by omega) (by omega) (by omega) (by omega) (by omega) VD41.out VI41.out), by omega, by omega, HF41⟩, rfl, by simp only [puts, Act.put, List.setIfInBounds_toArray, List.set_cons_zero, List.set_cons_succ]⟩
            exact ReadyU.nil
          exact ReadyU.nil
        exact ReadyU.nil
      refine ReadyU.cons (i := 9) rfl (fun K hK => ?_) ?_
      case refine_1 =>
        simp only [List.getElem_toArray, List.getElem_cons_succ, List.getElem_cons_zero]
        refine ite_is (by rfl) ?_
        simp [go_sem]
        refine (clone_any _ N.inputs _ _ _ (netIns (Net.turned G1.out HF27.out (by omega) (by omega))) (by have := HNN.out; rcases HNI.out with h | h <;> omega)).mono ?_
        rintro e W43 ⟨r43, rfl, hr43, hb43⟩
        have hg43 := grown_below hb43; clear hb43
        have hs43 := hg43.size
        have HF43 := Lib.hid (HF27.out.still hg43); clear HF27
        have VD43 := Lib.hid (IntS.still VD27.out hg43 (by omega)); clear VD27
        obtain ⟨AVI, cVI, rfl, _, _⟩ := hr43.ints.dims
        have VI43 := Lib.hid (show IntS W43 W27.heap.size W43.heap.size (.slice AVI N.inputs.length cVI) N.inputs from hr43.ints); clear hr43
        have hS44 : W43.cell? ⟨w.heap.size, 0, none⟩ = some (.slice (some ⟨b1, o1, none⟩) N.ends.length c1) ∧ W43.cell? ⟨w.heap.size, 1, none⟩ = some (.slice A1' N.ids.length c1') ∧ W43.cell? ⟨w.heap.size, 2, none⟩ = some (.slice A1'' N.inputs.length c1'') := ⟨(HF43.out.boxN bx1 (by omega)).cell 0 (by simp), (HF43.out.boxN bx1 (by omega)).cell 1 (by simp), (HF43.out.boxN bx1 (by omega)).cell 2 (by simp)⟩
        refine hK.out _ _ ⟨fun _ => hS44, ?_⟩
        clear hK K hS28
        try simp only [List.getElem_toArray, List.getElem_cons_succ, List.getElem_cons_zero, Act.put, List.setIfInBounds_toArray, List.set_cons_zero, List.set_cons_succ]
        refine anyU_ready (rs := [3, 11]) (by kernel_rfl) (by simp) ?_
        refine ReadyU.cons (i := 3) rfl (fun K hK => ?_) ?_
        case refine_1 =>
          simp only [List.getElem_toArray, List.getElem_cons_succ, List.getElem_cons_zero]
          refine ite_is (by rfl) ?_
          have hmk := HMK.out
          simp [go_sem, hmk]
          clear hmk
          refine nameA ?_
          intro W45 HW45
          have hg45 : W43.grownBy W45 none := by rw [HW45.out]; exact grown_alloc _ _
          have TB45 := Lib.hid (show BoxN W45 W43.heap.size (madeCells #[.slice none 0 0] N.ends.length) 54 by rw [HW45.out]; exact BoxN.new _ _ _)
          have hz45 : W43.heap.size < W45.heap.size := TB45.out.lt
          clear HW45
          have hs45 := hg45.size
          have HF45 := Lib.hid (HF43.out.still hg45); clear HF43
          have VD45 := Lib.hid (IntS.still VD43.out hg45 (by omega)); clear VD43
          have VI45 := Lib.hid (IntS.still VI43.out hg45 (by omega)); clear VI43
          have hS46 : W45.cell? ⟨w.heap.size, 0, none⟩ = some (.slice (some ⟨b1, o1, none⟩) N.ends.length c1) ∧ W45.cell? ⟨w.heap.size, 1, none⟩ = some (.slice A1' N.ids.length c1') ∧ W45.cell? ⟨w.heap.size, 2, none⟩ = some (.slice A1'' N.inputs.length c1'') := ⟨(HF45.out.boxN bx1 (by omega)).cell 0 (by simp), (HF45.out.boxN bx1 (by omega)).cell 1 (by simp), (HF45.out.boxN bx1 (by omega)).cell 2 (by simp)⟩
          refine hK.out _ _ ⟨fun _ => hS46, ?_⟩
          clear hK K hS44
          try simp only [List.getElem_toArray, List.getElem_cons_succ, List.getElem_cons_zero, Act.put, List.setIfInBounds_toArray, List.set_cons_zero, List.set_cons_succ]
          refine anyU_take (i := 10) (v := .agg #[.slice (some ⟨W43.heap.size, 0, none⟩) N.ends.length N.ends.length, .slice AVD N.ids.length cVD, .slice AVI N.inputs.length cVI]) rfl (by kernel_rfl) (by kernel_rfl) (by kernel_rfl) (fun _ _ _ ⟨_, _, h, _⟩ => by cases h) ⟨by rfl, fun w' hS' => (by obtain ⟨s1, s2, s3⟩ := hS'; go_simp)⟩ hS46 ?_
          simp only [List.getElem_toArray, List.getElem_cons_succ, List.getElem_cons_zero, Act.put, List.setIfInBounds_toArray, List.set_cons_zero, List.set_cons_succ]
          refine anyU_ready (rs := [11]) (by kernel_rfl) (by simp) ?_
          refine ReadyU.cons (i := 11) rfl (fun K hK => ?_) ?_
          case refine_1 =>
            simp only [List.getElem_toArray, List.getElem_cons_succ, List.getElem_cons_zero]
            refine ite_is (by rfl) ?_
            simp [go_sem]
            refine nameA ?_
            intro W47 HW47
            have hg47 : W45.grownBy W47 none := by rw [HW47.out]; exact grown_alloc _ _
            have OUT47 := Lib.hid (show BoxN W47 W45.heap.size #[.slice none 0 0, .slice none 0 0, .slice none 0 0] 31 by rw [HW47.out]; exact BoxN.new _ _ _)
            have hz47 : W45.heap.size < W47.heap.size := OUT47.out.lt
            clear HW47
            have hs47 := hg47.size
            have HF47 := Lib.hid (HF45.out.still hg47); clear HF45
            have VD47 := Lib.hid (IntS.still VD45.out hg47 (by omega)); clear VD45
            have VI47 := Lib.hid (IntS.still VI45.out hg47 (by omega)); clear VI45
            have TB47 := Lib.hid (BoxN.still TB45.out hg47); clear TB45
            have hS48 : W47.cell? ⟨w.heap.size, 0, none⟩ = some (.slice (some ⟨b1, o1, none⟩) N.ends.length c1) ∧ W47.cell? ⟨w.heap.size, 1, none⟩ = some (.slice A1' N.ids.length c1') ∧ W47.cell? ⟨w.heap.size, 2, none⟩ = some (.slice A1'' N.inputs.length c1'') := ⟨(HF47.out.boxN bx1 (by omega)).cell 0 (by simp), (HF47.out.boxN bx1 (by omega)).cell 1 (by simp), (HF47.out.boxN bx1 (by omega)).cell 2 (by simp)⟩
            refine hK.out _ _ ⟨fun _ => hS48, ?_⟩
            clear hK K hS46
            try simp only [List.getElem_toArray, List.getElem_cons_succ, List.getElem_cons_zero, Act.put, List.setIfInBounds_toArray, List.set_cons_zero, List.set_cons_succ]
            refine anyU_ready (rs := [12]) (by kernel_rfl) (by simp) ?_
            refine ReadyU.cons (i := 12) rfl (fun K hK => ?_) ?_
            case refine_1 =>
              simp only [List.getElem_toArray, List.getElem_cons_succ, List.getElem_cons_zero]
              refine ite_is (by rfl) ?_
              have kd0 : W47.cell? ⟨W45.heap.size, 0, none⟩ = some (.slice none 0 0) := OUT47.out.cell 0 (by simp)
              have kf0 := OUT47.out.frozen 0
              have kd1 : W47.cell? ⟨W45.heap.size, 1, none⟩ = some (.slice none 0 0) := OUT47.out.cell 1 (by simp)
              have kf1 := OUT47.out.frozen 1
              have kd2 : W47.cell? ⟨W45.heap.size, 2, none⟩ = some (.slice none 0 0) := OUT47.out.cell 2 (by simp)
              have kf2 := OUT47.out.frozen 2
              simp [go_sem, kd0, kf0, kd1, kf1, kd2, kf2]
              refine nameA ?_
              intro W49 HW49
              have hg49 : W47.grownBy W49 (some (W45.heap.size)) := by rw [HW49.out]; exact grownBy_setCell (p := ⟨W45.heap.size, 2, none⟩) (grownBy_setCell (p := ⟨W45.heap.size, 1, none⟩) (grown_set _ ⟨W45.heap.size, 0, none⟩ _) rfl _) rfl _
              have hs49 := hg49.size
              have HF49 := Lib.hid (HF47.out.grown hg49 (fun g e => .inr (by cases e; omega)))
              have VD49 := Lib.hid (IntS.far VD47.out hg49 (by omega) (fun g e => by cases e; omega)); clear VD47
              have VI49 := Lib.hid (IntS.far VI47.out hg49 (by omega) (fun g e => by cases e; omega)); clear VI47
              have TB49 := Lib.hid (BoxN.far TB47.out hg49 (fun g e => by cases e; omega)); clear TB47
              have OUT49 := Lib.hid (show BoxN W49 (W45.heap.size) #[.slice (some ⟨W43.heap.size, 0, none⟩) N.ends.length N.ends.length, .slice AVD N.ids.length cVD, .slice AVI N.inputs.length cVI] 31 by rw [HW49.out]; exact ((OUT47.out.set 0 _).set 1 _).set 2 _)
              clear HW49 kd0 kf0 kd1 kf1 kd2 kf2 OUT47
              have hS50 : W49.cell? ⟨w.heap.size, 0, none⟩ = some (.slice (some ⟨b1, o1, none⟩) N.ends.length c1) ∧ W49.cell? ⟨w.heap.size, 1, none⟩ = some (.slice A1' N.ids.length c1') ∧ W49.cell? ⟨w.heap.size, 2, none⟩ = some (.slice A1'' N.inputs.length c1'') := ⟨(HF49.out.boxN bx1 (by omega)).cell 0 (by simp), (HF49.out.boxN bx1 (by omega)).cell 1 (by simp), (HF49.out.boxN bx1 (by omega)).cell 2 (by simp)⟩
              refine hK.out _ _ ⟨fun _ => hS50, ?_⟩
              clear hK K hS48
              try simp only [List.getElem_toArray, List.getElem_cons_succ, List.getElem_cons_zero, Act.put, List.setIfInBounds_toArray, List.set_cons_zero, List.set_cons_succ]
              clear hS50
              refine anyU_done (by kernel_rfl) ?_ _
              exact ⟨[.pointer (some ⟨w.heap.size, 0, none⟩), .slice (some ⟨b1, o1, none⟩) N.ends.length c1, .int .i64 N.ends.length, .slice (some ⟨W43.heap.size, 0, none⟩) N.ends.length N.ends.length, .pointer (some ⟨w.heap.size, 1, none⟩), .slice A1' N.ids.length c1', .slice AVD N.ids.length cVD, .pointer (some ⟨w.heap.size, 2, none⟩), .slice A1'' N.inputs.length c1'', .slice AVI N.inputs.length cVI, .agg #[.slice (some ⟨W43.heap.size, 0, none⟩) N.ends.length N.ends.length, .slice AVD N.ids.length cVD, .slice AVI N.inputs.length cVI], .pointer (some ⟨W45.heap.size, 0, none⟩)], ⟨_, _, W1.heap.size, W27.heap.size, W27.heap.size, W43.heap.size, _, _, _, _, rfl, OUT49, Lib.hid (by rw [fillE_zero]; exact RN.made (rowIs_boxN TB49.out) (by unfold maxLen; omega) (by omega) (by omega) (by omega) (by omega) (by omega) (by omega) (by omega) (by omega) (by omega) (by omega) VD49.out VI49.out), by omega, by omega, HF49⟩, rfl, by simp only [puts, Act.put, List.setIfInBounds_toArray, List.set_cons_zero, List.set_cons_succ]⟩
            exact ReadyU.nil
          exact ReadyU.nil
        refine ReadyU.cons (i := 11) rfl (fun K hK => ?_) ?_
        case refine_1 =>
          simp only [List.getElem_toArray, List.getElem_cons_succ, List.getElem_cons_zero]
          refine ite_is (by rfl) ?_
          simp [go_sem]
          refine nameA ?_
          intro W51 HW51
          have hg51 : W43.grownBy W51 none := by rw [HW51.out]; exact grown_alloc _ _
          have OUT51 := Lib.hid (show BoxN W51 W43.heap.size #[.slice none 0 0, .slice none 0 0, .slice none 0 0] 31 by rw [HW51.out]; exact BoxN.new _ _ _)
          have hz51 : W43.heap.size < W51.heap.size := OUT51.out.lt
          clear HW51
          have hs51 := hg51.size
          have HF51 := Lib.hid (HF43.out.still hg51); clear HF43
          have VD51 := Lib.hid (IntS.still VD43.out hg51 (by omega)); clear VD43
          have VI51 := Lib.hid (IntS.still VI43.out hg51 (by omega)); clear VI43
          have hS52 : W51.cell? ⟨w.heap.size, 0, none⟩ = some (.slice (some ⟨b1, o1, none⟩) N.ends.length c1) ∧ W51.cell? ⟨w.heap.size, 1, none⟩ = some (.slice A1' N.ids.length c1') ∧ W51.cell? ⟨w.heap.size, 2, none⟩ = some (.slice A1'' N.inputs.length c1'') := ⟨(HF51.out.boxN bx1 (by omega)).cell 0 (by simp), (HF51.out.boxN bx1 (by omega)).cell 1 (by simp), (HF51.out.boxN bx1 (by omega)).cell 2 (by simp)⟩
          refine hK.out _ _ ⟨fun _ => hS52, ?_⟩
          clear hK K hS44
          try simp only [List.getElem_toArray, List.getElem_cons_succ, List.getElem_cons_zero, Act.put, List.setIfInBounds_toArray, List.set_cons_zero, List.set_cons_succ]
          refine anyU_ready (rs := [3]) (by kernel_rfl) (by simp) ?_
          refine ReadyU.cons (i := 3) rfl (fun K hK => ?_) ?_
          case refine_1 =>
            simp only [List.getElem_toArray, List.getElem_cons_succ, List.getElem_cons_zero]
            refine ite_is (by rfl) ?_
            have hmk := HMK.out
            simp [go_sem, hmk]
            clear hmk
            refine nameA ?_
            intro W53 HW53
            have hg53 : W51.grownBy W53 none := by rw [HW53.out]; exact grown_alloc _ _
            have TB53 := Lib.hid (show BoxN W53 W51.heap.size (madeCells #[.slice none 0 0] N.ends.length) 54 by rw [HW53.out]; exact BoxN.new _ _ _)
            have hz53 : W51.heap.size < W53.heap.size := TB53.out.lt
            clear HW53
            have hs53 := hg53.size
            have HF53 := Lib.hid (HF51.out.still hg53); clear HF51
            have VD53 := Lib.hid (IntS.still VD51.out hg53 (by omega)); clear VD51
            have VI53 := Lib.hid (IntS.still VI51.out hg53 (by omega)); clear VI51
            have OUT53 := Lib.hid (BoxN.still OUT51.out hg53); clear OUT51
            have hS54 : W53.cell? ⟨w.heap.size, 0, none⟩ = some (.slice (some ⟨b1, o1, none⟩) N.ends.length c1) ∧ W53.cell? ⟨w.heap.size, 1, none⟩ = some (.slice A1' N.ids.length c1') ∧ W53.cell? ⟨w.heap.size, 2, none⟩ = some (.slice A1'' N.inputs.length c1'') := ⟨(HF53.out.boxN bx1 (by omega)).cell 0 (by simp), (HF53.out.boxN bx1 (by omega)).cell 1 (by simp), (HF53.out.boxN bx1 (by omega)).cell 2 (by simp)⟩
            refine hK.out _ _ ⟨fun _ => hS54, ?_⟩
            clear hK K hS52
            try simp only [List.getElem_toArray, List.getElem_cons_succ, List.getElem_cons_zero, Act.put, List.setIfInBounds_toArray, List.set_cons_zero, List.set_cons_succ]
            refine anyU_take (i := 10) (v := .agg #[.slice (some ⟨W51.heap.size, 0, none⟩) N.ends.length N.ends.length, .slice AVD N.ids.length cVD, .slice AVI N.inputs.length cVI]) rfl (by kernel_rfl) (by kernel_rfl) (by kernel_rfl) (fun _ _ _ ⟨_, _, h, _⟩ => by cases h) ⟨by rfl, fun w' hS' => (by obtain ⟨s1, s2, s3⟩ := hS'; go_simp)⟩ hS54 ?_
            simp only [List.getElem_toArray, List.getElem_cons_succ, List.getElem_cons_zero, Act.put, List.setIfInBounds_toArray, List.set_cons_zero, List.set_cons_succ]
            refine anyU_ready (rs := [12]) (by kernel_rfl) (by simp) ?_
            refine ReadyU.cons (i := 12) rfl (fun K hK => ?_) ?_
            case refine_1 =>
              simp only [List.getElem_toArray, List.getElem_cons_succ, List.getElem_cons_zero]
              refine ite_is (by rfl) ?_
              have kd0 : W53.cell? ⟨W43.heap.size, 0, none⟩ = some (.slice none 0 0) := OUT53.out.cell 0 (by simp)
              have kf0 := OUT53.out.frozen 0
              have kd1 : W53.cell? ⟨W43.heap.size, 1, none⟩ = some (.slice none 0 0) := OUT53.out.cell 1 (by simp)
              have kf1 := OUT53.out.frozen 1
              have kd2 : W53.cell? ⟨W43.heap.size, 2, none⟩ = some (.slice none 0 0) := OUT53.out.cell 2 (by simp)
              have kf2 := OUT53.out.frozen 2
              simp [go_sem, kd0, kf0, kd1, kf1, kd2, kf2]
              refine nameA ?_
              intro W55 HW55
              have hg55 : W53.grownBy W55 (some (W43.heap.size)) := by rw [HW55.out]; exact grownBy_setCell (p := ⟨W43.heap.size, 2, none⟩) (grownBy_setCell (p := ⟨W43.heap.size, 1, none⟩) (grown_set _ ⟨W43.heap.size, 0, none⟩ _) rfl _) rfl _
              have hs55 := hg55.size
              have HF55 := Lib.hid (HF53.out.grown hg55 (fun g e => .inr (by cases e; omega)))
              have VD55 := Lib.hid (IntS.far VD53.out hg55 (by omega) (fun g e => by cases e; omega)); clear VD53
              have VI55 := Lib.hid (IntS.far VI53.out hg55 (by omega) (fun g e => by cases e; omega)); clear VI53
              have TB55 := Lib.hid (BoxN.far TB53.out hg55 (fun g e => by cases e; omega)); clear TB53
              have OUT55 := Lib.hid (show BoxN W55 (W43.heap.size) #[.slice (some ⟨W51.heap.size, 0, none⟩) N.ends.length N.ends.length, .slice AVD N.ids.length cVD, .slice AVI N.inputs.length cVI] 31 by rw [HW55.out]; exact ((OUT53.out.set 0 _).set 1 _).set 2 _)
              clear HW55 kd0 kf0 kd1 kf1 kd2 kf2 OUT53
              have hS56 : W55.cell? ⟨w.heap.size, 0, none⟩ = some (.slice (some ⟨b1, o1, none⟩) N.ends.length c1) ∧ W55.cell? ⟨w.heap.size, 1, none⟩ = some (.slice A1' N.ids.length c1') ∧ W55.cell? ⟨w.heap.size, 2, none⟩ = some (.slice A1'' N.inputs.length c1'') := ⟨(HF55.out.boxN bx1 (by omega)).cell 0 (by simp), (HF55.out.boxN bx1 (by omega)).cell 1 (by simp), (HF55.out.boxN bx1 (by omega)).cell 2 (by simp)⟩
              refine hK.out _ _ ⟨fun _ => hS56, ?_⟩
              clear hK K hS54
              try simp only [List.getElem_toArray, List.getElem_cons_succ, List.getElem_cons_zero, Act.put, List.setIfInBounds_toArray, List.set_cons_zero, List.set_cons_succ]
              clear hS56
              refine anyU_done (by kernel_rfl) ?_ _
              exact ⟨[.pointer (some ⟨w.heap.size, 0, none⟩), .slice (some ⟨b1, o1, none⟩) N.ends.length c1, .int .i64 N.ends.length, .slice (some ⟨W51.heap.size, 0, none⟩) N.ends.length N.ends.length, .pointer (some ⟨w.heap.size, 1, none⟩), .slice A1' N.ids.length c1', .slice AVD N.ids.length cVD, .pointer (some ⟨w.heap.size, 2, none⟩), .slice A1'' N.inputs.length c1'', .slice AVI N.inputs.length cVI, .agg #[.slice (some ⟨W51.heap.size, 0, none⟩) N.ends.length N.ends.length, .slice AVD N.ids.length cVD, .slice AVI N.inputs.length cVI], .pointer (some ⟨W43.heap.size, 0, none⟩)], ⟨_, _, W1.heap.size, W27.heap.size, W27.heap.size, W43.heap.size, _, _, _, _, rfl, OUT55, Lib.hid (by rw [fillE_zero]; exact RN.made (rowIs_boxN TB55.out) (by unfold maxLen; omega) (by omega) (by omega) (by omega) (by omega) (by omega) (by omega) (by omega) (by omega) (by omega) (by omega) VD55.out VI55.out), by omega, by omega, HF55⟩, rfl, by simp only [puts, Act.put, List.setIfInBounds_toArray, List.set_cons_zero, List.set_cons_succ]⟩
            exact ReadyU.nil
          exact ReadyU.nil
        exact ReadyU.nil
      refine ReadyU.cons (i := 11) rfl (fun K hK => ?_) ?_
      case refine_1 =>
        simp only [List.getElem_toArray, List.getElem_cons_succ, List.getElem_cons_zero]
        refine ite_is (by rfl) ?_
        simp [go_sem]
        refine nameA ?_
        intro W57 HW57
        have hg57 : W27.grownBy W57 none := by rw [HW57.out]; exact grown_alloc _ _
        have OUT57 := Lib.hid (show BoxN W57 W27.heap.size #[.slice none 0 0, .slice none 0 0, .slice none 0 0] 31 by rw [HW57.out]; exact BoxN.new _ _ _)
        have hz57 : W27.heap.size < W57.heap.size := OUT57.out.lt
        clear HW57
        have hs57 := hg57.size
        have HF57 := Lib.hid (HF27.out.still hg57); clear HF27
        have VD57 := Lib.hid (IntS.still VD27.out hg57 (by omega)); clear VD27
        have hS58 : W57.cell? ⟨w.heap.size, 0, none⟩ = some (.slice (some ⟨b1, o1, none⟩) N.ends.length c1) ∧ W57.cell? ⟨w.heap.size, 1, none⟩ = some (.slice A1' N.ids.length c1') ∧ W57.cell? ⟨w.heap.size, 2, none⟩ = some (.slice A1'' N.inputs.length c1'') := ⟨(HF57.out.boxN bx1 (by omega)).cell 0 (by simp), (HF57.out.boxN bx1 (by omega)).cell 1 (by simp), (HF57.out.boxN bx1 (by omega)).cell 2 (by simp)⟩
        refine hK.out _ _ ⟨fun _ => hS58, ?_⟩
        clear hK K hS28
        try simp only [List.getElem_toArray, List.getElem_cons_succ, List.getElem_cons_zero, Act.put, List.setIfInBounds_toArray, List.set_cons_zero, List.set_cons_succ]
        refine anyU_ready (rs := [3, 9]) (by kernel_rfl) (by simp) ?_
        refine ReadyU.cons (i := 3) rfl (fun K hK => ?_) ?_
        case refine_1 =>
          simp only [List.getElem_toArray, List.getElem_cons_succ, List.getElem_cons_zero]
          refine ite_is (by rfl) ?_
          have hmk := HMK.out
          simp [go_sem, hmk]
          clear hmk
          refine nameA ?_
          intro W59 HW59
          have hg59 : W57.grownBy W59 none := by rw [HW59.out]; exact grown_alloc _ _
          have TB59 := Lib.hid (show BoxN W59 W57.heap.size (madeCells #[.slice none 0 0] N.ends.length) 54 by rw [HW59.out]; exact BoxN.new _ _ _)
          have hz59 : W57.heap.size < W59.heap.size := TB59.out.lt
          clear HW59
          have hs59 := hg59.size
          have HF59 := Lib.hid (HF57.out.still hg59); clear HF57
          have VD59 := Lib.hid (IntS.still VD57.out hg59 (by omega)); clear VD57
          have OUT59 := Lib.hid (BoxN.still OUT57.out hg59); clear OUT57
          have hS60 : W59.cell? ⟨w.heap.size, 0, none⟩ = some (.slice (some ⟨b1, o1, none⟩) N.ends.length c1) ∧ W59.cell? ⟨w.heap.size, 1, none⟩ = some (.slice A1' N.ids.length c1') ∧ W59.cell? ⟨w.heap.size, 2, none⟩ = some (.slice A1'' N.inputs.length c1'') := ⟨(HF59.out.boxN bx1 (by omega)).cell 0 (by simp), (HF59.out.boxN bx1 (by omega)).cell 1 (by simp), (HF59.out.boxN bx1 (by omega)).cell 2 (by simp)⟩
          refine hK.out _ _ ⟨fun _ => hS60, ?_⟩
          clear hK K hS58
          try simp only [List.getElem_toArray, List.getElem_cons_succ, List.getElem_cons_zero, Act.put, List.setIfInBounds_toArray, List.set_cons_zero, List.set_cons_succ]
          refine anyU_ready (rs := [9]) (by kernel_rfl) (by simp) ?_
          refine ReadyU.cons (i := 9) rfl (fun K hK => ?_) ?_
          case refine_1 =>
            simp only [List.getElem_toArray, List.getElem_cons_succ, List.getElem_cons_zero]
            refine ite_is (by rfl) ?_
            simp [go_sem]
            refine (clone_any _ N.inputs _ _ _ (netIns (Net.turned G1.out HF59.out (by omega) (by omega))) (by have := HNN.out; rcases HNI.out with h | h <;> omega)).mono ?_
            rintro e W61 ⟨r61, rfl, hr61, hb61⟩
            have hg61 := grown_below hb61; clear hb61
            have hs61 := hg61.size
            have HF61 := Lib.hid (HF59.out.still hg61); clear HF59
            have VD61 := Lib.hid (IntS.still VD59.out hg61 (by omega)); clear VD59
            have OUT61 := Lib.hid (BoxN.still OUT59.out hg61); clear OUT59
            have TB61 := Lib.hid (BoxN.still TB59.out hg61); clear TB59
            obtain ⟨AVI, cVI, rfl, _, _⟩ := hr61.ints.dims
            have VI61 := Lib.hid (show IntS W61 W59.heap.size W61.heap.size (.slice AVI N.inputs.length cVI) N.inputs from hr61.ints); clear hr61
            have hS62 : W61.cell? ⟨w.heap.size, 0, none⟩ = some (.slice (some ⟨b1, o1, none⟩) N.ends.length c1) ∧ W61.cell? ⟨w.heap.size, 1, none⟩ = some (.slice A1' N.ids.length c1') ∧ W61.cell? ⟨w.heap.size, 2, none⟩ = some (.slice A1'' N.inputs.length c1'') := ⟨(HF61.out.boxN bx1 (by omega)).cell 0 (by simp), (HF61.out.boxN bx1 (by omega)).cell 1 (by simp), (HF61.out.boxN bx1 (by omega)).cell 2 (by simp)⟩
            refine hK.out _ _ ⟨fun _ => hS62, ?_⟩
            clear hK K hS60
            try simp only [List.getElem_toArray, List.getElem_cons_succ, List.getElem_cons_zero, Act.put, List.setIfInBounds_toArray, List.set_cons_zero, List.set_cons_succ]
            refine anyU_take (i := 10) (v := .agg #[.slice (some ⟨W57.heap.size, 0, none⟩) N.ends.length N.ends.length, .slice AVD N.ids.length cVD, .slice AVI N.inputs.length cVI]) rfl (by kernel_rfl) (by kernel_rfl) (by kernel_rfl) (fun _ _ _ ⟨_, _, h, _⟩ => by cases h) ⟨by rfl, fun w' hS' => (by obtain ⟨s1, s2, s3⟩ := hS'; go_simp)⟩ hS62 ?_
            simp only [List.getElem_toArray, List.getElem_cons_succ, List.getElem_cons_zero, Act.put, List.setIfInBounds_toArray, List.set_cons_zero, List.set_cons_succ]
            refine anyU_ready (rs := [12]) (by kernel_rfl) (by simp) ?_
            refine ReadyU.cons (i := 12) rfl (fun K hK => ?_) ?_
            case refine_1 =>
              simp only [List.getElem_toArray, List.getElem_cons_succ, List.getElem_cons_zero]
              refine ite_is (by rfl) ?_
              have kd0 : W61.cell? ⟨W27.heap.size, 0, none⟩ = some (.slice none 0 0) := OUT61.out.cell 0 (by simp)
              have kf0 := OUT61.out.frozen 0
              have kd1 : W61.cell? ⟨W27.heap.size, 1, none⟩ = some (.slice none 0 0) := OUT61.out.cell 1 (by simp)
              have kf1 := OUT61.out.frozen 1
              have kd2 : W61.cell? ⟨W27.heap.size, 2, none⟩ = some (.slice none 0 0) := OUT61.out.cell 2 (by simp)
              have kf2 := OUT61.out.frozen 2
              simp [go_sem, kd0, kf0, kd1, kf1, kd2, kf2]
              refine nameA ?_
              intro W63 HW63
              have hg63 : W61.grownBy W63 (some (W27.heap.size)) := by rw [HW63.out]; exact grownBy_setCell (p := ⟨W27.heap.size, 2, none⟩) (grownBy_setCell (p := ⟨W27.heap.size, 1, none⟩) (grown_set _ ⟨W27.heap.size, 0, none⟩ _) rfl _) rfl _
              have hs63 := hg63.size
              have HF63 := Lib.hid (HF61.out.grown hg63 (fun g e => .inr (by cases e; omega)))
              have VD63 := Lib.hid (IntS.far VD61.out hg63 (by omega) (fun g e => by cases e; omega)); clear VD61
              have TB63 := Lib.hid (BoxN.far TB61.out hg63 (fun g e => by cases e; omega)); clear TB61
              have VI63 := Lib.hid (IntS.far VI61.out hg63 (by omega) (fun g e => by cases e; omega)); clear VI61
              have OUT63 := Lib.hid (show BoxN W63 (W27.heap.size) #[.slice (some ⟨W57.heap.size, 0, none⟩) N.ends.length N.ends.length, .slice AVD N.ids.length cVD, .slice AVI N.inputs.length cVI] 31 by rw [HW63.out]; exact ((OUT61.out.set 0 _).set 1 _).set 2 _)
              clear HW63 kd0 kf0 kd1 kf1 kd2 kf2 OUT61
              have hS64 : W63.cell? ⟨w.heap.size, 0, none⟩ = some (.slice (some ⟨b1, o1, none⟩) N.ends.length c1) ∧ W63.cell? ⟨w.heap.size, 1, none⟩ = some (.slice A1' N.ids.length c1') ∧ W63.cell? ⟨w.heap.size, 2, none⟩ = some (.slice A1'' N.inputs.length c1'') := ⟨(HF63.out.boxN bx1 (by omega)).cell 0 (by simp), (HF63.out.boxN bx1 (by omega)).cell 1 (by simp), (HF63.out.boxN bx1 (by omega)).cell 2 (by simp)⟩
              refine hK.out _ _ ⟨fun _ => hS64, ?_⟩
              clear hK K hS62
              try simp only [List.getElem_toArray, List.getElem_cons_succ, List.getElem_cons_zero, Act.put, List.setIfInBounds_toArray, List.set_cons_zero, List.set_cons_succ]
              clear hS64
              refine anyU_done (by kernel_rfl) ?_ _
              exact ⟨[.pointer (some ⟨w.heap.size, 0, none⟩), .slice (some ⟨b1, o1, none⟩) N.ends.length c1, .int .i64 N.ends.length, .slice (some ⟨W57.heap.size, 0, none⟩) N.ends.length N.ends.length, .pointer (some ⟨w.heap.size, 1, none⟩), .slice A1' N.ids.length c1', .slice AVD N.ids.length cVD, .pointer (some ⟨w.heap.size, 2, none⟩), .slice A1'' N.inputs.length c1'', .slice AVI N.inputs.length cVI, .agg #[.slice (some ⟨W57.heap.size, 0, none⟩) N.ends.length N.ends.length, .slice AVD N.ids.length cVD, .slice AVI N.inputs.length cVI], .pointer (some ⟨W27.heap.size, 0, none⟩)], ⟨_, _, W1.heap.size, W27.heap.size, W59.heap.size, W61.heap.size, _, _, _, _, rfl, OUT63, Lib.hid (by rw [fillE_zero]; exact RN.made (rowIs_boxN TB63.out) (by unfold maxLen; omega) (by omega) (by omega) (by omega) (by omega) (by omega) (by omega) (by omega) (by omega) (by omega) (by omega) VD63.out VI63.out), by omega, by omega, HF63⟩, rfl, by simp only [puts, Act.put, List.setIfInBounds_toArray, List.set_cons_zero, List.set_cons_succ]⟩
            exact ReadyU.nil
          exact ReadyU.nil
        refine ReadyU.cons (i := 9) rfl (fun K hK => ?_) ?_
        case refine_1 =>
          simp only [List.getElem_toArray, List.getElem_cons_succ, List.getElem_cons_zero]
          refine ite_is (by rfl) ?_
          simp [go_sem]
          refine (clone_any _ N.inputs _ _ _ (netIns (Net.turned G1.out HF57.out (by omega) (by omega))) (by have := HNN.out; rcases HNI.out with h | h <;> omega)).mono ?_
          rintro e W65 ⟨r65, rfl, hr65, hb65⟩
          have hg65 := grown_below hb65; clear hb65
          have hs65 := hg65.size
          have HF65 := Lib.hid (HF57.out.still hg65); clear HF57
          have VD65 := Lib.hid (IntS.still VD57.out hg65 (by omega)); clear VD57
          have OUT65 := Lib.hid (BoxN.still OUT57.out hg65); clear OUT57
          obtain ⟨AVI, cVI, rfl, _, _⟩ := hr65.ints.dims
          have VI65 := Lib.hid (show IntS W65 W57.heap.size W65.heap.size (.slice AVI N.inputs.length cVI) N.inputs from hr65.ints); clear hr65
          have hS66 : W65.cell? ⟨w.heap.size, 0, none⟩ = some (.slice (some ⟨b1, o1, none⟩) N.ends.length c1) ∧ W65.cell? ⟨w.heap.size, 1, none⟩ = some (.slice A1' N.ids.length c1') ∧ W65.cell? ⟨w.heap.size, 2, none⟩ = some (.slice A1'' N.inputs.length c1'') := ⟨(HF65.out.boxN bx1 (by omega)).cell 0 (by simp), (HF65.out.boxN bx1 (by omega)).cell 1 (by simp), (HF65.out.boxN bx1 (by omega)).cell 2 (by simp)⟩
          refine hK.out _ _ ⟨fun _ => hS66, ?_⟩
          clear hK K hS58
          try simp only [List.getElem_toArray, List.getElem_cons_succ, List.getElem_cons_zero, Act.put, List.setIfInBounds_toArray, List.set_cons_zero, List.set_cons_succ]
          refine anyU_ready (rs := [3]) (by kernel_rfl) (by simp) ?_
          refine ReadyU.cons (i := 3) rfl (fun K hK => ?_) ?_
          case refine_1 =>
            simp only [List.getElem_toArray, List.getElem_cons_succ, List.getElem_cons_zero]
            refine ite_is (by rfl) ?_
            have hmk := HMK.out
            simp [go_sem, hmk]
            clear hmk
            refine nameA ?_
            intro W67 HW67
            have hg67 : W65.grownBy W67 none := by rw [HW67.out]; exact grown_alloc _ _
            have TB67 := Lib.hid (show BoxN W67 W65.heap.size (madeCells #[.slice none 0 0] N.ends.length) 54 by rw [HW67.out]; exact BoxN.new _ _ _)
            have hz67 : W65.heap.size < W67.heap.size := TB67.out.lt
            clear HW67
            have hs67 := hg67.size
            have HF67 := Lib.hid (HF65.out.still hg67); clear HF65
            have VD67 := Lib.hid (IntS.still VD65.out hg67 (by omega)); clear VD65
            have OUT67 := Lib.hid (BoxN.still OUT65.out hg67); clear OUT65
            have VI67 := Lib.hid (IntS.still VI65.out hg67 (by omega)); clear VI65
            have hS68 : W67.cell? ⟨w.heap.size, 0, none⟩ = some (.slice (some ⟨b1, o1, none⟩) N.ends.length c1) ∧ W67.cell? ⟨w.heap.size, 1, none⟩ = some (.slice A1' N.ids.length c1') ∧ W67.cell? ⟨w.heap.size, 2, none⟩ = some (.slice A1'' N.inputs.length c1'') := ⟨(HF67.out.boxN bx1 (by omega)).cell 0 (by simp), (HF67.out.boxN bx1 (by omega)).cell 1 (by simp), (HF67.out.boxN bx1 (by omega)).cell 2 (by simp)⟩
            refine hK.out _ _ ⟨fun _ => hS68, ?_⟩
            clear hK K hS66
            try simp only [List.getElem_toArray, List.getElem_cons_succ, List.getElem_cons_zero, Act.put, List.setIfInBounds_toArray, List.set_cons_zero, List.set_cons_succ]
            refine anyU_take (i := 10) (v := .agg #[.slice (some ⟨W65.heap.size, 0, none⟩) N.ends.length N.ends.length, .slice AVD N.ids.length cVD, .slice AVI N.inputs.length cVI]) rfl (by kernel_rfl) (by kernel_rfl) (by kernel_rfl) (fun _ _ _ ⟨_, _, h, _⟩ => by cases h) ⟨by rfl, fun w' hS' => (by obtain ⟨s1, s2, s3⟩ := hS'; go_simp)⟩ hS68 ?_
            simp only [List.getElem_toArray, List.getElem_cons_succ, List.getElem_cons_zero, Act.put, List.setIfInBounds_toArray, List.set_cons_zero, List.set_cons_succ]
            refine anyU_ready (rs := [12]) (by kernel_rfl) (by simp) ?_
            refine ReadyU.cons (i := 12) rfl (fun K hK => ?_) ?_
            case refine_1 =>
              simp only [List.getElem_toArray, List.getElem_cons_succ, List.getElem_cons_zero]
              refine ite_is (by rfl) ?_
              have kd0 : W67.cell? ⟨W27.heap.size, 0, none⟩ = some (.slice none 0 0) := OUT67.out.cell 0 (by simp)
              have kf0 := OUT67.out.frozen 0
              have kd1 : W67.cell? ⟨W27.heap.size, 1, none⟩ = some (.slice none 0 0) := OUT67.out.cell 1 (by simp)
              have kf1 := OUT67.out.frozen 1
              have kd2 : W67.cell? ⟨W27.heap.size, 2, none⟩ = some (.slice none 0 0) := OUT67.out.cell 2 (by simp)
              have kf2 := OUT67.out.frozen 2
              simp [go_sem, kd0, kf0, kd1, kf1, kd2, kf2]
              refine nameA ?_
              intro W69 HW69
              have hg69 : W67.grownBy W69 (some (W27.heap.size)) := by rw [HW69.out]; exact grownBy_setCell (p := ⟨W27.heap.size, 2, none⟩) (grownBy_setCell (p := ⟨W27.heap.size, 1, none⟩) (grown_set _ ⟨W27.heap.size, 0, none⟩ _) rfl _) rfl _
              have hs69 := hg69.size
              have HF69 := Lib.hid (HF67.out.grown hg69 (fun g e => .inr (by cases e; omega)))
              have VD69 := Lib.hid (IntS.far VD67.out hg69 (by omega) (fun g e => by cases e; omega)); clear VD67
              have VI69 := Lib.hid (IntS.far VI67.out hg69 (by omega) (fun g e => by cases e; omega)); clear VI67
              have TB69 := Lib.hid (BoxN.far TB67.out hg69 (fun g e => by cases e; omega)); clear TB67
              have OUT69 := Lib.hid (show BoxN W69 (W27.heap.size) #[.slice (some ⟨W65.heap.size, 0, none⟩) N.ends.length N.ends.length, .slice AVD N.ids.length cVD, .slice AVI N.inputs.length cVI] 31 by rw [HW69.out]; exact ((OUT67.out.set 0 _).set 1 _).set 2 _)
              clear HW69 kd0 kf0 kd1 kf1 kd2 kf2 OUT67
              have hS70 : W69.cell? ⟨w.heap.size, 0, none⟩ = some (.slice (some ⟨b1, o1, none⟩) N.ends.length c1) ∧ W69.cell? ⟨w.heap.size, 1, none⟩ = some (.slice A1' N.ids.length c1') ∧ W69.cell? ⟨w.heap.size, 2, none⟩ = some (.slice A1'' N.inputs.length c1'') := ⟨(HF69.out.boxN bx1 (by omega)).cell 0 (by simp), (HF69.out.boxN bx1 (by omega)).cell 1 (by simp), (HF69.out.boxN bx1 (by omega)).cell 2 (by simp)⟩
              refine hK.out _ _ ⟨fun _ => hS70, ?_⟩
              clear hK K hS68
              try simp only [List.getElem_toArray, List.getElem_cons_succ, List.getElem_cons_zero, Act.put, List.setIfInBounds_toArray, List.set_cons_zero, List.set_cons_succ]
              clear hS70
              refine anyU_done (by kernel_rfl) ?_ _
              exact ⟨[.pointer (some ⟨w.heap.size, 0, none⟩), .slice (some ⟨b1, o1, none⟩) N.ends.length c1, .int .i64 N.ends.length, .slice (some ⟨W65.heap.size, 0, none⟩) N.ends.length N.ends.length, .pointer (some ⟨w.heap.size, 1, none⟩), .slice A1' N.ids.length c1', .slice AVD N.ids.length cVD, .pointer (some ⟨w.heap.size, 2, none⟩), .slice A1'' N.inputs.length c1'', .slice AVI N.inputs.length cVI, .agg #[.slice (some ⟨W65.heap.size, 0, none⟩) N.ends.length N.ends.length, .slice AVD N.ids.length cVD, .slice AVI N.inputs.length cVI], .pointer (some ⟨W27.heap.size, 0, none⟩)], ⟨_, _, W1.heap.size, W27.heap.size, W57.heap.size, W65.heap.size, _, _, _, _, rfl, OUT69, Lib.hid (by rw [fillE_zero]; exact RN.made (rowIs_boxN TB69.out) (by unfold maxLen; omega) (by omega) (by omega) (by omega) (by omega) (by omega) (by omega) (by omega) (by omega) (by omega) (by omega) VD69.out VI69.out), by omega, by omega, HF69⟩, rfl, by simp only [puts, Act.put, List.setIfInBounds_toArray, List.set_cons_zero, List.set_cons_succ]⟩
            exact ReadyU.nil
          exact ReadyU.nil
        exact ReadyU.nil
      exact ReadyU.nil
    refine ReadyU.cons (i := 11) rfl (fun K hK => ?_) ?_
    case refine_1 =>
      simp only [List.getElem_toArray, List.getElem_cons_succ, List.getElem_cons_zero]
      refine ite_is (by rfl) ?_
      simp [go_sem]
      refine nameA ?_
      intro W71 HW71
      have hg71 : W1.grownBy W71 none := by rw [HW71.out]; exact grown_alloc _ _
      have OUT71 := Lib.hid (show BoxN W71 W1.heap.size #[.slice none 0 0, .slice none 0 0, .slice none 0 0] 31 by rw [HW71.out]; exact BoxN.new _ _ _)
      have hz71 : W1.heap.size < W71.heap.size := OUT71.out.lt
      clear HW71
      have hs71 := hg71.size
      have HF71 := Lib.hid (HF1.out.still hg71); clear HF1
      have hS72 : W71.cell? ⟨w.heap.size, 0, none⟩ = some (.slice (some ⟨b1, o1, none⟩) N.ends.length c1) ∧ W71.cell? ⟨w.heap.size, 1, none⟩ = some (.slice A1' N.ids.length c1') ∧ W71.cell? ⟨w.heap.size, 2, none⟩ = some (.slice A1'' N.inputs.length c1'') := ⟨(HF71.out.boxN bx1 (by omega)).cell 0 (by simp), (HF71.out.boxN bx1 (by omega)).cell 1 (by simp), (HF71.out.boxN bx1 (by omega)).cell 2 (by simp)⟩
      refine hK.out _ _ ⟨fun _ => hS72, ?_⟩
      clear hK K hS2
      try simp only [List.getElem_toArray, List.getElem_cons_succ, List.getElem_cons_zero, Act.put, List.setIfInBounds_toArray, List.set_cons_zero, List.set_cons_succ]
      refine anyU_ready (rs := [3, 6]) (by kernel_rfl) (by simp) ?_
      refine ReadyU.cons (i := 3) rfl (fun K hK => ?_) ?_
      case refine_1 =>
        simp only [List.getElem_toArray, List.getElem_cons_succ, List.getElem_cons_zero]
        refine ite_is (by rfl) ?_
        have hmk := HMK.out
        simp [go_sem, hmk]
        clear hmk
        refine nameA ?_
        intro W73 HW73
        have hg73 : W71.grownBy W73 none := by rw [HW73.out]; exact grown_alloc _ _
        have TB73 := Lib.hid (show BoxN W73 W71.heap.size (madeCells #[.slice none 0 0] N.ends.length) 54 by rw [HW73.out]; exact BoxN.new _ _ _)
        have hz73 : W71.heap.size < W73.heap.size := TB73.out.lt
        clear HW73
        have hs73 := hg73.size
        have HF73 := Lib.hid (HF71.out.still hg73); clear HF71
        have OUT73 := Lib.hid (BoxN.still OUT71.out hg73); clear OUT71
        have hS74 : W73.cell? ⟨w.heap.size, 0, none⟩ = some (.slice (some ⟨b1, o1, none⟩) N.ends.length c1) ∧ W73.cell? ⟨w.heap.size, 1, none⟩ = some (.slice A1' N.ids.length c1') ∧ W73.cell? ⟨w.heap.size, 2, none⟩ = some (.slice A1'' N.inputs.length c1'') := ⟨(HF73.out.boxN bx1 (by omega)).cell 0 (by simp), (HF73.out.boxN bx1 (by omega)).cell 1 (by simp), (HF73.out.boxN bx1 (by omega)).cell 2 (by simp)⟩
        refine hK.out _ _ ⟨fun _ => hS74, ?_⟩
        clear hK K hS72
        try simp only [List.getElem_toArray, List.getElem_cons_succ, List.getElem_cons_zero, Act.put, List.setIfInBounds_toArray, List.set_cons_zero, List.set_cons_succ]
        refine anyU_ready (rs := [6]) (by kernel_rfl) (by simp) ?_
        refine ReadyU.cons (i := 6) rfl (fun K hK => ?_) ?_
        case refine_1 =>
          simp only [List.getElem_toArray, List.getElem_cons_succ, List.getElem_cons_zero]
          refine ite_is (by rfl) ?_
          simp [go_sem]
          refine (clone_any _ N.ids _ _ _ (netIds (Net.turned G1.out HF73.out (by omega) (by omega))) (by have := HNN.out; rcases HNI.out with h | h <;> omega)).mono ?_
          rintro e W75 ⟨r75, rfl, hr75, hb75⟩
          have hg75 := grown_below hb75; clear hb75
          have hs75 := hg75.size
          have HF75 := Lib.hid (HF73.out.still hg75); clear HF73
          have OUT75 := Lib.hid (BoxN.still OUT73.out hg75); clear OUT73
          have TB75 := Lib.hid (BoxN.still TB73.out hg75); clear TB73
          obtain ⟨AVD, cVD, rfl, _, _⟩ := hr75.ints.dims
          have VD75 := Lib.hid (show IntS W75 W73.heap.size W75.heap.size (.slice AVD N.ids.length cVD) N.ids from hr75.ints); clear hr75
          have hS76 : W75.cell? ⟨w.heap.size, 0, none⟩ = some (.slice (some ⟨b1, o1, none⟩) N.ends.length c1) ∧ W75.cell? ⟨w.heap.size, 1, none⟩ = some (.slice A1' N.ids.length c1') ∧ W75.cell? ⟨w.heap.size, 2, none⟩ = some (.slice A1'' N.inputs.length c1'') := ⟨(HF75.out.boxN bx1 (by omega)).cell 0 (by simp), (HF75.out.boxN bx1 (by omega)).cell 1 (by simp), (HF75.out.boxN bx1 (by omega)).cell 2 (by simp)⟩
          refine hK.out _ _ ⟨fun _ => hS76, ?_⟩
          clear hK K hS74
          try simp only [List.getElem_toArray, List.getElem_cons_succ, List.getElem_cons_zero, Act.put, List.setIfInBounds_toArray, List.set_cons_zero, List.set_cons_succ]
          refine anyU_ready (rs := [9]) (by kernel_rfl) (by simp) ?_
          refine ReadyU.cons (i := 9) rfl (fun K hK => ?_) ?_
          case refine_1 =>
            simp only [List.getElem_toArray, List.getElem_cons_succ, List.getElem_cons_zero]
            refine ite_is (by rfl) ?_
            simp [go_sem]
            refine (clone_any _ N.inputs _ _ _ (netIns (Net.turned G1.out HF75.out (by omega) (by omega))) (by have := HNN.out; rcases HNI.out with h | h <;> omega)).mono ?_
            rintro e W77 ⟨r77, rfl, hr77, hb77⟩
            have hg77 := grown_below hb77; clear hb77
            have hs77 := hg77.size
            have HF77 := Lib.hid (HF75.out.still hg77); clear HF75
            have OUT77 := Lib.hid (BoxN.still OUT75.out hg77); clear OUT75
            have TB77 := Lib.hid (BoxN.still TB75.out hg77); clear TB75
            have VD77 := Lib.hid (IntS.still VD75.out hg77 (by omega)); clear VD75
            obtain ⟨AVI, cVI, rfl, _, _⟩ := hr77.ints.dims
            have VI77 := Lib.hid (show IntS W77 W75.heap.size W77.heap.size (.slice AVI N.inputs.length cVI) N.inputs from hr77.ints); clear hr77
            have hS78 : W77.cell? ⟨w.heap.size, 0, none⟩ = some (.slice (some ⟨b1, o1, none⟩) N.ends.length c1) ∧ W77.cell? ⟨w.heap.size, 1, none⟩ = some (.slice A1' N.ids.length c1') ∧ W77.cell? ⟨w.heap.size, 2, none⟩ = some (.slice A1'' N.inputs.length c1'') := ⟨(HF77.out.boxN bx1 (by omega)).cell 0 (by simp), (HF77.out.boxN bx1 (by omega)).cell 1 (by simp), (HF77.out.boxN bx1 (by omega)).cell 2 (by simp)⟩
            refine hK.out _ _ ⟨fun _ => hS78, ?_⟩
            clear hK K hS76
            try simp only [List.getElem_toArray, List.getElem_cons_succ, List.getElem_cons_zero, Act.put, List.setIfInBounds_toArray, List.set_cons_zero, List.set_cons_succ]
            refine anyU_take (i := 10) (v := .agg #[.slice (some ⟨W71.heap.size, 0, none⟩) N.ends.length N.ends.length, .slice AVD N.ids.length cVD, .slice AVI N.inputs.length cVI]) rfl (by kernel_rfl) (by kernel_rfl) (by kernel_rfl) (fun _ _ _ ⟨_, _, h, _⟩ => by cases h) ⟨by rfl, fun w' hS' => (by obtain ⟨s1, s2, s3⟩ := hS'; go_simp)⟩ hS78 ?_
            simp only [List.getElem_toArray, List.getElem_cons_succ, List.getElem_cons_zero, Act.put, List.setIfInBounds_toArray, List.set_cons_zero, List.set_cons_succ]
            refine anyU_ready (rs := [12]) (by kernel_rfl) (by simp) ?_
            refine ReadyU.cons (i := 12) rfl (fun K hK => ?_) ?_
            case refine_1 =>
              simp only [List.getElem_toArray, List.getElem_cons_succ, List.getElem_cons_zero]
              refine ite_is (by rfl) ?_
              have kd0 : W77.cell? ⟨W1.heap.size, 0, none⟩ = some (.slice none 0 0) := OUT77.out.cell 0 (by simp)
              have kf0 := OUT77.out.frozen 0
              have kd1 : W77.cell? ⟨W1.heap.size, 1, none⟩ = some (.slice none 0 0) := OUT77.out.cell 1 (by simp)
              have kf1 := OUT77.out.frozen 1
              have kd2 : W77.cell? ⟨W1.heap.size, 2, none⟩ = some (.slice none 0 0) := OUT77.out.cell 2 (by simp)
              have kf2 := OUT77.out.frozen 2
              simp [go_sem, kd0, kf0, kd1, kf1, kd2, kf2]
              refine nameA ?_
              intro W79 HW79
              have hg79 : W77.grownBy W79 (some (W1.heap.size)) := by rw [HW79.out]; exact grownBy_setCell (p := ⟨W1.heap.size, 2, none⟩) (grownBy_setCell (p := ⟨W1.heap.size, 1, none⟩) (grown_set _ ⟨W1.heap.size, 0, none⟩ _) rfl _) rfl _
              have hs79 := hg79.size
              have HF79 := Lib.hid (HF77.out.grown hg79 (fun g e => .inr (by cases e; omega)))
              have TB79 := Lib.hid (BoxN.far TB77.out hg79 (fun g e => by cases e; omega)); clear TB77
              have VD79 := Lib.hid (IntS.far VD77.out hg79 (by omega) (fun g e => by cases e; omega)); clear VD77
              have VI79 := Lib.hid (IntS.far VI77.out hg79 (by omega) (fun g e => by cases e; omega)); clear VI77
              have OUT79 := Lib.hid (show BoxN W79 (W1.heap.size) #[.slice (some ⟨W71.heap.size, 0, none⟩) N.ends.length N.ends.length, .slice AVD N.ids.length cVD, .slice AVI N.inputs.length cVI] 31 by rw [HW79.out]; exact ((OUT77.out.set 0 _).set 1 _).set 2 _)
              clear HW79 kd0 kf0 kd1 kf1 kd2 kf2 OUT77
              have hS80 : W79.cell? ⟨w.heap.size, 0, none⟩ = some (.slice (some ⟨b1, o1, none⟩) N.ends.length c1) ∧ W79.cell? ⟨w.heap.size, 1, none⟩ = some (.slice A1' N.ids.length c1') ∧ W79.cell? ⟨w.heap.size, 2, none⟩ = some (.slice A1'' N.inputs.length c1'') := ⟨(HF79.out.boxN bx1 (by omega)).cell 0 (by simp), (HF79.out.boxN bx1 (by omega)).cell 1 (by simp), (HF79.out.boxN bx1 (by omega)).cell 2 (by simp)⟩
              refine hK.out _ _ ⟨fun _ => hS80, ?_⟩
              clear hK K hS78
              try simp only [List.getElem_toArray, List.getElem_cons_succ, List.getElem_cons_zero, Act.put, List.setIfInBounds_toArray, List.set_cons_zero, List.set_cons_succ]
              clear hS80
              refine anyU_done (by kernel_rfl) ?_ _
              exact ⟨[.pointer (some ⟨w.heap.size, 0, none⟩), .slice (some ⟨b1, o1, none⟩) N.ends.length c1, .int .i64 N.ends.length, .slice (some ⟨W71.heap.size, 0, none⟩) N.ends.length N.ends.length, .pointer (some ⟨w.heap.size, 1, none⟩), .slice A1' N.ids.length c1', .slice AVD N.ids.length cVD, .pointer (some ⟨w.heap.size, 2, none⟩), .slice A1'' N.inputs.length c1'', .slice AVI N.inputs.length cVI, .agg #[.slice (some ⟨W71.heap.size, 0, none⟩) N.ends.length N.ends.length, .slice AVD N.ids.length cVD, .slice AVI N.inputs.length cVI], .pointer (some ⟨W1.heap.size, 0, none⟩)], ⟨_, _, W73.heap.size, W75.heap.size, W75.heap.size, W77.heap.size, _, _, _, _, rfl, OUT79, Lib.hid (by rw [fillE_zero]; exact RN.made (rowIs_boxN TB79.out) (by unfold maxLen; omega) (by omega) (by omega) (by omega) (by omega) (by omega) (by omega) (by omega) (by omega) (by omega) (by omega) VD79.out VI79.out), by omega, by omega, HF79⟩, rfl, by simp only [puts, Act.put, List.setIfInBounds_toArray, List.set_cons_zero, List.set_cons_succ]⟩
            exact ReadyU.nil
          exact ReadyU.nil
        exact ReadyU.nil
      refine ReadyU.cons (i := 6) rfl (fun K hK => ?_) ?_
      case refine_1 =>
        simp only [List.getElem_toArray, List.getElem_cons_succ, List.getElem_cons_zero]
        refine ite_is (by rfl) ?_
        simp [go_sem]
        refine (clone_any _ N.ids _ _ _ (netIds (Net.turned G1.out HF71.out (by omega) (by omega))) (by have := HNN.out; rcases HNI.out with h | h <;> omega)).mono ?_
        rintro e W81 ⟨r81, rfl, hr81, hb81⟩
        have hg81 := grown_below hb81; clear hb81
        have hs81 := hg81.size
        have HF81 := Lib.hid (HF71.out.still hg81); clear HF71
        have OUT81 := Lib.hid (BoxN.still OUT71.out hg81); clear OUT71
        obtain ⟨AVD, cVD, rfl, _, _⟩ := hr81.ints.dims
        have VD81 := Lib.hid (show IntS W81 W71.heap.size W81.heap.size (.slice AVD N.ids.length cVD) N.ids from hr81.ints); clear hr81
        have hS82 : W81.cell? ⟨w.heap.size, 0, none⟩ = some (.slice (some ⟨b1, o1, none⟩) N.ends.length c1) ∧ W81.cell? ⟨w.heap.size, 1, none⟩ = some (.slice A1' N.ids.length c1') ∧ W81.cell? ⟨w.heap.size, 2, none⟩ = some (.slice A1'' N.inputs.length c1'') := ⟨(HF81.out.boxN bx1 (by omega)).cell 0 (by simp), (HF81.out.boxN bx1 (by omega)).cell 1 (by simp), (HF81.out.boxN bx1 (by omega)).cell 2 (by simp)⟩
        refine hK.out _ _ ⟨fun _ => hS82, ?_⟩
        clear hK K hS72
        try simp only [List.getElem_toArray, List.getElem_cons_succ, List.getElem_cons_zero, Act.put, List.setIfInBounds_toArray, List.set_cons_zero, List.set_cons_succ]
        refine anyU_ready (rs := [3, 9]) (by kernel_rfl) (by simp) ?_
        refine ReadyU.cons (i := 3) rfl (fun K hK => ?_) ?_
        case refine_1 =>
          simp only [List.getElem_toArray, List.getElem_cons_succ, List.getElem_cons_zero]
          refine ite_is (by rfl) ?_
          have hmk := HMK.out
          simp [go_sem, hmk]
          clear hmk
          refine nameA ?_
          intro W83 HW83
          have hg83 : W81.grownBy W83 none := by rw [HW83.out]; exact grown_alloc _ _
          have TB83 := Lib.hid (show BoxN W83 W81.heap.size (madeCells #[.slice none 0 0] N.ends.length) 54 by rw [HW83.out]; exact BoxN.new _ _ _)
          have hz83 : W81.heap.size < W83.heap.size := TB83.out.lt
          clear HW83
          have hs83 := hg83.size
          have HF83 := Lib.hid (HF81.out.still hg83); clear HF81
          have OUT83 := Lib.hid (BoxN.still OUT81.out hg83); clear OUT81
          have VD83 := Lib.hid (IntS.still VD81.out hg83 (by omega)); clear VD81
          have hS84 : W83.cell? ⟨w.heap.size, 0, none⟩ = some (.slice (some ⟨b1, o1, none⟩) N.ends.length c1) ∧ W83.cell? ⟨w.heap.size, 1, none⟩ = some (.slice A1' N.ids.length c1') ∧ W83.cell? ⟨w.heap.size, 2, none⟩ = some (.slice A1'' N.inputs.length c1'') := ⟨(HF83.out.boxN bx1 (by omega)).cell 0 (by simp), (HF83.out.boxN bx1 (by omega)).cell 1 (by simp), (HF83.out.boxN bx1 (by omega)).cell 2 (by simp)⟩
          refine hK.out _ _ ⟨fun _ => hS84, ?_⟩
          clear hK K hS82
          try simp only [List.getElem_toArray, List.getElem_cons_succ, List.getElem_cons_zero, Act.put, List.setIfInBounds_toArray, List.set_cons_zero, List.set_cons_succ]
          refine anyU_ready (rs := [9]) (by kernel_rfl) (by simp) ?_
          refine ReadyU.cons (i := 9) rfl (fun K hK => ?_) ?_
          case refine_1 =>
            simp only [List.getElem_toArray, List.getElem_cons_succ, List.getElem_cons_zero]
            refine ite_is (by rfl) ?_
            simp [go_sem]
            refine (clone_any _ N.inputs _ _ _ (netIns (Net.turned G1.out HF83.out (by omega) (by omega))) (by have := HNN.out; rcases HNI.out with h | h <;> omega)).mono ?_
            rintro e W85 ⟨r85, rfl, hr85, hb85⟩
            have hg85 := grown_below hb85; clear hb85
            have hs85 := hg85.size
            have HF85 := Lib.hid (HF83.out.still hg85); clear HF83
            have OUT85 := Lib.hid (BoxN.still OUT83.out hg85); clear OUT83
            have VD85 := Lib.hid (IntS.still VD83.out hg85 (by omega)); clear VD83
            have TB85 := Lib.hid (BoxN.still TB83.out hg85); clear TB83
            obtain ⟨AVI, cVI, rfl, _, _⟩ := hr85.ints.dims
            have VI85 := Lib.hid (show IntS W85 W83.heap.size W85.heap.size (.slice AVI N.inputs.length cVI) N.inputs from hr85.ints); clear hr85
            have hS86 : W85.cell? ⟨w.heap.size, 0, none⟩ = some (.slice (some ⟨b1, o1, none⟩) N.ends.length c1) ∧ W85.cell? ⟨w.heap.size, 1, none⟩ = some (.slice A1' N.ids.length c1') ∧ W85.cell? ⟨w.heap.size, 2, none⟩ = some (.slice A1'' N.inputs.length c1'') := ⟨(HF85.out.boxN bx1 (by omega)).cell 0 (by simp), (HF85.out.boxN bx1 (by omega)).cell 1 (by simp), (HF85.out.boxN bx1 (by omega)).cell 2 (by simp)⟩
            refine hK.out _ _ ⟨fun _ => hS86, ?_⟩
            clear hK K hS84
            try simp only [List.getElem_toArray, List.getElem_cons_succ, List.getElem_cons_zero, Act.put, List.setIfInBounds_toArray, List.set_cons_zero, List.set_cons_succ]
            refine anyU_take (i := 10) (v := .agg #[.slice (some ⟨W81.heap.size, 0, none⟩) N.ends.length N.ends.length, .slice AVD N.ids.length cVD, .slice AVI N.inputs.length cVI]) rfl (by kernel_rfl) (by kernel_rfl) (by kernel_rfl) (fun _ _ _ ⟨_, _, h, _⟩ => by cases h) ⟨by rfl, fun w' hS' => (by obtain ⟨s1, s2, s3⟩ := hS'; go_simp)⟩ hS86 ?_
            simp only [List.getElem_toArray, List.getElem_cons_succ, List.getElem_cons_zero, Act.put, List.setIfInBounds_toArray, List.set_cons_zero, List.set_cons_succ]
            refine anyU_ready (rs := [12]) (by kernel_rfl) (by simp) ?_
            refine ReadyU.cons (i := 12) rfl (fun K hK => ?_) ?_
            case refine_1 =>
              simp only [List.getElem_toArray, List.getElem_cons_succ, List.getElem_cons_zero]
              refine ite_is (by rfl) ?_
              have kd0 : W85.cell? ⟨W1.heap.size, 0, none⟩ = some (.slice none 0 0) := OUT85.out.cell 0 (by simp)
              have kf0 := OUT85.out.frozen 0
              have kd1 : W85.cell? ⟨W1.heap.size, 1, none⟩ = some (.slice none 0 0) := OUT85.out.cell 1 (by simp)
              have kf1 := OUT85.out.frozen 1
              have kd2 : W85.cell? ⟨W1.heap.size, 2, none⟩ = some (.slice none 0 0) := OUT85.out.cell 2 (by simp)
              have kf2 := OUT85.out.frozen 2
              simp [go_sem, kd0, kf0, kd1, kf1, kd2, kf2]
              refine nameA ?_
              intro W87 HW87
              have hg87 : W85.grownBy W87 (some (W1.heap.size)) := by rw [HW87.out]; exact grownBy_setCell (p := ⟨W1.heap.size, 2, none⟩) (grownBy_setCell (p := ⟨W1.heap.size, 1, none⟩) (grown_set _ ⟨W1.heap.size, 0, none⟩ _) rfl _) rfl _
              have hs87 := hg87.size
              have HF87 := Lib.hid (HF85.out.grown hg87 (fun g e => .inr (by cases e; omega)))
              have VD87 := Lib.hid (IntS.far VD85.out hg87 (by omega) (fun g e => by cases e; omega)); clear VD85
              have TB87 := Lib.hid (BoxN.far TB85.out hg87 (fun g e => by cases e; omega)); clear TB85
              have VI87 := Lib.hid (IntS.far VI85.out hg87 (by omega) (fun g e => by cases e; omega)); clear VI85
              have OUT87 := Lib.hid (show BoxN W87 (W1.heap.size) #[.slice (some ⟨W81.heap.size, 0, none⟩) N.ends.length N.ends.length, .slice AVD N.ids.length cVD, .slice AVI N.inputs.length cVI] 31 by rw [HW87.out]; exact ((OUT85.out.set 0 _).set 1 _).set 2 _)
              clear HW87 kd0 kf0 kd1 kf1 kd2 kf2 OUT85
              have hS88 : W87.cell? ⟨w.heap.size, 0, none⟩ = some (.slice (some ⟨b1, o1, none⟩) N.ends.length c1) ∧ W87.cell? ⟨w.heap.size, 1, none⟩ = some (.slice A1' N.ids.length c1') ∧ W87.cell? ⟨w.heap.size, 2, none⟩ = some (.slice A1'' N.inputs.length c1'') := ⟨(HF87.out.boxN bx1 (by omega)).cell 0 (by simp), (HF87.out.boxN bx1 (by omega)).cell 1 (by simp), (HF87.out.boxN bx1 (by omega)).cell 2 (by simp)⟩
              refine hK.out _ _ ⟨fun _ => hS88, ?_⟩
              clear hK K hS86
              try simp only [List.getElem_toArray, List.getElem_cons_succ, List.getElem_cons_zero, Act.put, List.setIfInBounds_toArray, List.set_cons_zero, List.set_cons_succ]
              clear hS88
              refine anyU_done (by kernel_rfl) ?_ _
              exact ⟨[.pointer (some ⟨w.heap.size, 0, none⟩), .slice (some ⟨b1, o1, none⟩) N.ends.length c1, .int .i64 N.ends.length, .slice (some ⟨W81.heap.size, 0, none⟩) N.ends.length N.ends.length, .pointer (some ⟨w.heap.size, 1, none⟩), .slice A1' N.ids.length c1', .slice AVD N.ids.length cVD, .pointer (some ⟨w.heap.size, 2, none⟩), .slice A1'' N.inputs.length c1'', .slice AVI N.inputs.length cVI, .agg #[.slice (some ⟨W81.heap.size, 0, none⟩) N.ends.length N.ends.length, .slice AVD N.ids.length cVD, .slice AVI N.inputs.length cVI], .pointer (some ⟨W1.heap.size, 0, none⟩)], ⟨_, _, W71.heap.size, W81.heap.size, W83.heap.size, W85.heap.size, _, _, _, _, rfl, OUT87, Lib.hid (by rw [fillE_zero]; exact RN.made (rowIs_boxN TB87.out) (by unfold maxLen; omega) (by omega) (by omega) (by omega) (by omega) (by omega) (by omega) (by omega) (by omega) (by omega) (by omega) VD87.out VI87.out), by omega, by omega, HF87⟩, rfl, by simp only [puts, Act.put, List.setIfInBounds_toArray, List.set_cons_zero, List.set_cons_succ]⟩
            exact ReadyU.nil
          exact ReadyU.nil
        refine ReadyU.cons (i := 9) rfl (fun K hK => ?_) ?_
        case refine_1 =>
          simp only [List.getElem_toArray, List.getElem_cons_succ, List.getElem_cons_zero]
          refine ite_is (by rfl) ?_
          simp [go_sem]
          refine (clone_any _ N.inputs _ _ _ (netIns (Net.turned G1.out HF81.out (by omega) (by omega))) (by have := HNN.out; rcases HNI.out with h | h <;> omega)).mono ?_
          rintro e W89 ⟨r89, rfl, hr89, hb89⟩
          have hg89 := grown_below hb89; clear hb89
          have hs89 := hg89.size
          have HF89 := Lib.hid (HF81.out.still hg89); clear HF81
          have OUT89 := Lib.hid (BoxN.still OUT81.out hg89); clear OUT81
          have VD89 := Lib.hid (IntS.still VD81.out hg89 (by omega)); clear VD81
          obtain ⟨AVI, cVI, rfl, _, _⟩ := hr89.ints.dims
          have VI89 := Lib.hid (show IntS W89 W81.heap.size W89.heap.size (.slice AVI N.inputs.length cVI) N.inputs from hr89.ints); clear hr89
          have hS90 : W89.cell? ⟨w.heap.size, 0, none⟩ = some (.slice (some ⟨b1, o1, none⟩) N.ends.length c1) ∧ W89.cell? ⟨w.heap.size, 1, none⟩ = some (.slice A1' N.ids.length c1') ∧ W89.cell? ⟨w.heap.size, 2, none⟩ = some (.slice A1'' N.inputs.length c1'') := ⟨(HF89.out.boxN bx1 (by omega)).cell 0 (by simp), (HF89.out.boxN bx1 (by omega)).cell 1 (by simp), (HF89.out.boxN bx1 (by omega)).cell 2 (by simp)⟩
          refine hK.out _ _ ⟨fun _ => hS90, ?_⟩
          clear hK K hS82
          try simp only [List.getElem_toArray, List.getElem_cons_succ, List.getElem_cons_zero, Act.put, List.setIfInBounds_toArray, List.set_cons_zero, List.set_cons_succ]
          refine anyU_ready (rs := [3]) (by kernel_rfl) (by simp) ?_
          refine ReadyU.cons (i := 3) rfl (fun K hK => ?_) ?_
          case refine_1 =>
            simp only [List.getElem_toArray, List.getElem_cons_succ, List.getElem_cons_zero]
            refine ite_is (by rfl) ?_
            have hmk := HMK.out
            simp [go_sem, hmk]
            clear hmk
            refine nameA ?_
            intro W91 HW91
            have hg91 : W89.grownBy W91 none := by rw [HW91.out]; exact grown_alloc _ _
            have TB91 := Lib.hid (show BoxN W91 W89.heap.size (madeCells #[.slice none 0 0] N.ends.length) 54 by rw [HW91.out]; exact BoxN.new _ _ _)
            have hz91 : W89.heap.size < W91.heap.size := TB91.out.lt
            clear HW91
            have hs91 := hg91.size
            have HF91 := Lib.hid (HF89.out.still hg91); clear HF89
            have OUT91 := Lib.hid (BoxN.still OUT89.out hg91); clear OUT89
            have VD91 := Lib.hid (IntS.still VD89.out hg91 (by omega)); clear VD89
            have VI91 := Lib.hid (IntS.still VI89.out hg91 (by omega)); clear VI89
            have hS92 : W91.cell? ⟨w.heap.size, 0, none⟩ = some (.slice (some ⟨b1, o1, none⟩) N.ends.length c1) ∧ W91.cell? ⟨w.heap.size, 1, none⟩ = some (.slice A1' N.ids.length c1') ∧ W91.cell? ⟨w.heap.size, 2, none⟩ = some (.slice A1'' N.inputs.length c1'') := ⟨(HF91.out.boxN bx1 (by omega)).cell 0 (by simp), (HF91.out.boxN bx1 (by omega)).cell 1 (by simp), (HF91.out.boxN bx1 (by omega)).cell 2 (by simp)⟩
            refine hK.out _ _ ⟨fun _ => hS92, ?_⟩
            clear hK K hS90
            try simp only [List.getElem_toArray, List.getElem_cons_succ, List.getElem_cons_zero, Act.put, List.setIfInBounds_toArray, List.set_cons_zero, List.set_cons_succ]
            refine anyU_take (i := 10) (v := .agg #[.slice (some ⟨W89.heap.size, 0, none⟩) N.ends.length N.ends.length, .slice AVD N.ids.length cVD, .slice AVI N.inputs.length cVI]) rfl (by kernel_rfl) (by kernel_rfl) (by kernel_rfl) (fun _ _ _ ⟨_, _, h, _⟩ => by cases h) ⟨by rfl, fun w' hS' => (by obtain ⟨s1, s2, s3⟩ := hS'; go_simp)⟩ hS92 ?_
            simp only [List.getElem_toArray, List.getElem_cons_succ, List.getElem_cons_zero, Act.put, List.setIfInBounds_toArray, List.set_cons_zero, List.set_cons_succ]
            refine anyU_ready (rs := [12]) (by kernel_rfl) (by simp) ?_
            refine ReadyU.cons (i := 12) rfl (fun K hK => ?_) ?_
            case refine_1 =>
              simp only [List.getElem_toArray, List.getElem_cons_succ, List.getElem_cons_zero]
              refine ite_is (by rfl) ?_
              have kd0 : W91.cell? ⟨W1.heap.size, 0, none⟩ = some (.slice none 0 0) := OUT91.out.cell 0 (by simp)
              have kf0 := OUT91.out.frozen 0
              have kd1 : W91.cell? ⟨W1.heap.size, 1, none⟩ = some (.slice none 0 0) := OUT91.out.cell 1 (by simp)
              have kf1 := OUT91.out.frozen 1
              have kd2 : W91.cell? ⟨W1.heap.size, 2, none⟩ = some (.slice none 0 0) := OUT91.out.cell 2 (by simp)
              have kf2 := OUT91.out.frozen 2
              simp [go_sem, kd0, kf0, kd1, kf1, kd2, kf2]
              refine nameA ?_
              intro W93 HW93
              have hg93 : W91.grownBy W93 (some (W1.heap.size)) := by rw [HW93.out]; exact grownBy_setCell (p := ⟨W1.heap.size, 2, none⟩) (grownBy_setCell (p := ⟨W1.heap.size, 1, none⟩) (grown_set _ ⟨W1.heap.size, 0, none⟩ _) rfl _) rfl _
              have hs93 := hg93.size
              have HF93 := Lib.hid (HF91.out.grown hg93 (fun g e => .inr (by cases e; omega)))
              have VD93 := Lib.hid (IntS.far VD91.out hg93 (by omega) (fun g e => by cases e; omega)); clear VD91
              have VI93 := Lib.hid (IntS.far VI91.out hg93 (by omega) (fun g e => by cases e; omega)); clear VI91
              have TB93 := Lib.hid (BoxN.far TB91.out hg93 (fun g e => by cases e; omega)); clear TB91
              have OUT93 := Lib.hid (show BoxN W93 (W1.heap.size) #[.slice (some ⟨W89.heap.size, 0, none⟩) N.ends.length N.ends.length, .slice AVD N.ids.length cVD, .slice AVI N.inputs.length cVI] 31 by rw [HW93.out]; exact ((OUT91.out.set 0 _).set 1 _).set 2 _)
              clear HW93 kd0 kf0 kd1 kf1 kd2 kf2 OUT91
              have hS94 : W93.cell? ⟨w.heap.size, 0, none⟩ = some (.slice (some ⟨b1, o1, none⟩) N.ends.length c1) ∧ W93.cell? ⟨w.heap.size, 1, none⟩ = some (.slice A1' N.ids.length c1') ∧ W93.cell? ⟨w.heap.size, 2, none⟩ = some (.slice A1'' N.inputs.length c1'') := ⟨(HF93.out.boxN bx1 (by omega)).cell 0 (by simp), (HF93.out.boxN bx1 (by omega)).cell 1 (by simp), (HF93.out.boxN bx1 (by omega)).cell 2 (by simp)⟩
              refine hK.out _ _ ⟨fun _ => hS94, ?_⟩
              clear hK K hS92
              try simp only [List.getElem_toArray, List.getElem_cons_succ, List.getElem_cons_zero, Act.put, List.setIfInBounds_toArray, List.set_cons_zero, List.set_cons_succ]
              clear hS94
              refine anyU_done (by kernel_rfl) ?_ _
              exact ⟨[.pointer (some ⟨w.heap.size, 0, none⟩), .slice (some ⟨b1, o1, none⟩) N.ends.length c1, .int .i64 N.ends.length, .slice (some ⟨W89.heap.size, 0, none⟩) N.ends.length N.ends.length, .pointer (some ⟨w.heap.size, 1, none⟩), .slice A1' N.ids.length c1', .slice AVD N.ids.length cVD, .pointer (some ⟨w.heap.size, 2, none⟩), .slice A1'' N.inputs.length c1'', .slice AVI N.inputs.length cVI, .agg #[.slice (some ⟨W89.heap.size, 0, none⟩) N.ends.length N.ends.length, .slice AVD N.ids.length cVD, .slice AVI N.inputs.length cVI], .pointer (some ⟨W1.heap.size, 0, none⟩)], ⟨_, _, W71.heap.size, W81.heap.size, W81.heap.size, W89.heap.size, _, _, _, _, rfl, OUT93, Lib.hid (by rw [fillE_zero]; exact RN.made (rowIs_boxN TB93.out) (by unfold maxLen; omega) (by omega) (by omega) (by omega) (by omega) (by omega) (by omega) (by omega) (by omega) (by omega) (by omega) VD93.out VI93.out), by omega, by omega, HF93⟩, rfl, by simp only [puts, Act.put, List.setIfInBounds_toArray, List.set_cons_zero, List.set_cons_succ]⟩
            exact ReadyU.nil
          exact ReadyU.nil
        exact ReadyU.nil
      exact ReadyU.nil
    exact ReadyU.nil
  case refine_2 =>
    rintro vs W95 ⟨gO, gT, d1, d2, d3, i2, c8, c9, A8, A9, rfl, HB, HR, hgne, hgO, HF95⟩
    simp only [puts, Act.put, List.setIfInBounds_toArray, List.set_cons_zero, List.set_cons_succ]
    have hs95 := HF95.out.size
    have hgl := HB.out.lt
    have kbx1_0 : W95.cell? ⟨w.heap.size, 0, none⟩ = some (.slice (some ⟨b1, o1, none⟩) N.ends.length c1) := (HF95.out.boxN bx1 (by omega)).cell 0 (by simp)
    have kbx1_1 : W95.cell? ⟨w.heap.size, 1, none⟩ = some (.slice A1' N.ids.length c1') := (HF95.out.boxN bx1 (by omega)).cell 1 (by simp)
    have kbx1_2 : W95.cell? ⟨w.heap.size, 2, none⟩ = some (.slice A1'' N.inputs.length c1'') := (HF95.out.boxN bx1 (by omega)).cell 2 (by simp)
    go_wp2_with fail
    clear kbx1_0 kbx1_1 kbx1_2
    go_loopw [20] (fun kv wr => ∃ (k : Nat), k ≤ N.ends.length ∧ kv = .int .i64 k ∧ Hid (BoxN wr gO #[.slice (some ⟨gT, 0, none⟩) N.ends.length N.ends.length, .slice A8 N.ids.length c8, .slice A9 N.inputs.length c9] 31) ∧ Hid (RN wr WA.heap.size d1 d2 d3 i2 wr.heap.size gT (.slice (some ⟨gT, 0, none⟩) N.ends.length N.ends.length) (.slice A8 N.ids.length c8) (.slice A9 N.inputs.length c9) ⟨fillE N k, N.ids, N.inputs⟩) ∧ Hid (Turned WA.heap.size WA.heap.size WA wr)) (fun kv _ => N.ends.length - (intOf kv).toNat)
    case atStart => exact ⟨0, Nat.zero_le _, rfl, HB, HR, HF95⟩
    case round =>
      clear HF95
      obtain ⟨k, hk, rfl, HB, HR, HF96⟩ := hrel
      have hs96 := HF96.out.size
      obtain ⟨wt, rfl⟩ : ∃ wt : World, wt = wr := ⟨_, rfl⟩
      by_cases hkn : k < N.ends.length
      case neg =>
        obtain rfl : k = N.ends.length := by omega
        rw [fillE_all] at HR
        have ko0 : wt.cell? ⟨gO, 0, none⟩ = some (.slice (some ⟨gT, 0, none⟩) N.ends.length N.ends.length) := HB.out.cell 0 (by simp)
        have ko1 : wt.cell? ⟨gO, 1, none⟩ = some (.slice A8 N.ids.length c8) := HB.out.cell 1 (by simp)
        have ko2 : wt.cell? ⟨gO, 2, none⟩ = some (.slice A9 N.inputs.length c9) := HB.out.cell 2 (by simp)
        have HBR := Lib.hid (HF96.out.boxN bxx0 (by omega))
        have kr0 : wt.cell? ⟨w.heap.size + 1, 0, none⟩ = some (.slice none 0 0) := HBR.out.cell 0 (by simp)
        have kr1 : wt.cell? ⟨w.heap.size + 1, 1, none⟩ = some (.slice none 0 0) := HBR.out.cell 1 (by simp)
        have kr2 : wt.cell? ⟨w.heap.size + 1, 2, none⟩ = some (.slice none 0 0) := HBR.out.cell 2 (by simp)
        have kf0 := HBR.out.frozen 0
        have kf1 := HBR.out.frozen 1
        have kf2 := HBR.out.frozen 2
        go_wp2_with fail
        ((try simp only [Exit.inBlock, Exit.then]); refine bodyPost_ret (results_cell1 rfl _ _ _ rfl (load_net (((HBR.out.set 0 (.slice (some ⟨gT, 0, none⟩) N.ends.length N.ends.length)).set 1 (.slice A8 N.ids.length c8)).set 2 (.slice A9 N.inputs.length c9)))) rfl ?_)
        have hg9 : wt.grownBy (((wt.setCell ⟨w.heap.size + 1, 0, none⟩ (.slice (some ⟨gT, 0, none⟩) N.ends.length N.ends.length)).setCell ⟨w.heap.size + 1, 1, none⟩ (.slice A8 N.ids.length c8)).setCell ⟨w.heap.size + 1, 2, none⟩ (.slice A9 N.inputs.length c9)) (some (w.heap.size + 1)) := grownBy_setCell (p := ⟨w.heap.size + 1, 2, none⟩) (grownBy_setCell (p := ⟨w.heap.size + 1, 1, none⟩) (grown_set wt ⟨w.heap.size + 1, 0, none⟩ _) rfl _) rfl _
        exact ⟨d1, d2, d3, i2, gT, _, _, _, _, rfl, RN.up (RN.weak (RN.far HR.out hg9 (fun k e => by cases e; omega)) (by omega)) hg9.size (Nat.le_refl _), ((HF96.out.below_of hbA (by omega) (by omega)).grown hg9 (by omega) fun g e => by cases e; omega)⟩
      have hki : (k : Int) < N.ends.length := by omega
      obtain ⟨Aa, ca, hba, qa, hca, hda, hRa⟩ := Net.rowIn G1.out hkn
      replace qa := (HF96.out.cell (by omega) (by omega)).trans qa
      have Ra := Lib.hid hRa; clear hRa
      go_wp2_with fail
      clear qa
      have HGT := Lib.hid HR.out.g2; have HGA := Lib.hid HR.out.g1; have hi2w := HR.out.o4
      refine wp_region_U (fun w' => w'.cell? ⟨gO, 0, none⟩ = some (.slice (some ⟨gT, 0, none⟩) N.ends.length N.ends.length)) [6] (by kernel_rfl) ?_
      refine nameU ?_
      intro W97 HW97
      have hg97 : wt.grownBy W97 none := by rw [HW97.out]; exact grown_drew _
      clear HW97
      have hs97 := hg97.size
      have HF97 := Lib.hid (HF96.out.still hg97); clear HF96
      have OUT97 := Lib.hid (BoxN.still HB.out hg97); clear HB
      have R97 := Lib.hid (RN.still HR.out hg97); clear HR
      have hS98 : W97.cell? ⟨gO, 0, none⟩ = some (.slice (some ⟨gT, 0, none⟩) N.ends.length N.ends.length) := OUT97.out.cell 0 (by simp)
      refine anyU_take (i := 0) (v := .pointer (some ⟨gO, 0, none⟩)) rfl (by kernel_rfl) (by kernel_rfl) (by kernel_rfl) (fun _ _ _ h => h) ⟨by rfl, fun w' hS' => (by have s1 := hS'; go_simp)⟩ hS98 ?_
      simp only [List.getElem_toArray, List.getElem_cons_zero, Act.put, List.setIfInBounds_toArray, List.set_cons_zero, List.set_cons_succ]
      refine anyU_take (i := 1) (v := .slice (some ⟨gT, 0, none⟩) N.ends.length N.ends.length) rfl (by kernel_rfl) (by kernel_rfl) (by kernel_rfl) (fun _ _ _ h => h) ⟨by rfl, fun w' hS' => (by have s1 := hS'; go_simp)⟩ hS98 ?_
      simp only [List.getElem_toArray, List.getElem_cons_succ, List.getElem_cons_zero, Act.put, List.setIfInBounds_toArray, List.set_cons_zero, List.set_cons_succ]
      refine anyU_take (i := 2) (v := .int .i64 k) rfl (by kernel_rfl) (by kernel_rfl) (by kernel_rfl) (fun _ _ _ h => h) ⟨by rfl, fun w' hS' => (by have s1 := hS'; go_simp)⟩ hS98 ?_
      simp only [List.getElem_toArray, List.getElem_cons_succ, List.getElem_cons_zero, Act.put, List.setIfInBounds_toArray, List.set_cons_zero, List.set_cons_succ]
      refine anyU_take (i := 3) (v := .slice Aa (nthL N.ends k).length ca) rfl (by kernel_rfl) (by kernel_rfl) (by kernel_rfl) (fun _ _ _ h => h) ⟨by rfl, fun w' hS' => (by have s1 := hS'; go_simp)⟩ hS98 ?_
      simp only [List.getElem_toArray, List.getElem_cons_succ, List.getElem_cons_zero, Act.put, List.setIfInBounds_toArray, List.set_cons_zero, List.set_cons_succ]
      refine anyU_ready (rs := [4]) (by kernel_rfl) (by simp) ?_
      refine ReadyU.cons (i := 4) rfl (fun K hK => ?_) ReadyU.nil
      simp only [List.getElem_toArray, List.getElem_cons_succ, List.getElem_cons_zero]
      refine ite_is (by rfl) ?_
      simp [go_sem]
      refine (cloneE_any _ (nthL N.ends k) _ _ _ (EndS.turned Ra.out HF97.out (by omega) (by omega)) (by omega) (by have := good_deg HG.out hkn; omega)).mono ?_
      rintro e W99 ⟨rc, rfl, hrc, hb99⟩
      have hg99 := grown_below hb99; clear hb99
      have hs99 := hg99.size
      have HF99 := Lib.hid (HF97.out.still hg99); clear HF97
      have OUT99 := Lib.hid (BoxN.still OUT97.out hg99); clear OUT97
      have R99 := Lib.hid (RN.still R97.out hg99); clear R97
      obtain ⟨AC, cC, rfl, _, _⟩ := hrc.dims
      have HC := Lib.hid hrc; clear hrc
      have hS100 : W99.cell? ⟨gO, 0, none⟩ = some (.slice (some ⟨gT, 0, none⟩) N.ends.length N.ends.length) := OUT99.out.cell 0 (by simp)
      refine hK.out _ _ ⟨fun _ => hS100, ?_⟩
      clear hK K hS98
      try simp only [List.getElem_toArray, List.getElem_cons_succ, List.getElem_cons_zero, Act.put, List.setIfInBounds_toArray, List.set_cons_zero, List.set_cons_succ]
      refine anyU_take (i := 5) (v := .pointer (some ⟨gT, k, none⟩)) rfl (by kernel_rfl) (by kernel_rfl) (by kernel_rfl) (fun _ _ _ h => h) ⟨by rfl, fun w' hS' => (by have s1 := hS'; simp [go_sem, hki])⟩ hS100 ?_
      simp only [List.getElem_toArray, List.getElem_cons_succ, List.getElem_cons_zero, Act.put, List.setIfInBounds_toArray, List.set_cons_zero, List.set_cons_succ]
      obtain ⟨xv, z1, z2, z3⟩ := RN.topAt R99.out (a := k) (by rw [fillE_len N hk]; exact hkn)
      rw [Nat.zero_add] at z1 z3
      obtain ⟨Ax, nx, cx, rfl⟩ := RN.topForm R99.out (a := k) (by rw [fillE_len N hk]; exact hkn) (by rw [Nat.zero_add]; exact z1)
      have hi2 := R99.out.o4
      have hrc9 := Sl.row HC.out
      have HSE := Lib.hid (RN.setE (a := k) R99.out (by rw [fillE_len N hk]; exact hkn) (u := .slice AC (nthL N.ends k).length cC) (xs := nthL N.ends k) (EndS.mono HC.out (by omega) (Nat.le_refl _)) (by
        rcases hrc9 with h | ⟨b, h, h1, h2⟩
        · exact .inl h
        · right; rw [h]; intro e; injection e with e; have := HGT.out; omega))
      rw [fillE_set hkn, Nat.zero_add] at HSE
      refine anyU_ready (rs := [6]) (by kernel_rfl) (by simp) ?_
      refine ReadyU.cons (i := 6) rfl (fun K hK => ?_) ReadyU.nil
      simp only [List.getElem_toArray, List.getElem_cons_succ, List.getElem_cons_zero]
      refine ite_is (by rfl) ?_
      simp [go_sem, z1, z3]
      refine hK.out _ _ ⟨fun h => absurd h (by decide), ?_⟩
      clear hK K
      try simp only [List.getElem_toArray, List.getElem_cons_succ, List.getElem_cons_zero, Act.put, List.setIfInBounds_toArray, List.set_cons_zero, List.set_cons_succ]
      refine nameU ?_
      intro W101 HW101
      have hg101 : W99.grownBy W101 (some gT) := by rw [HW101.out]; exact grown_set _ ⟨gT, k, none⟩ _
      have hsn := hg101.size
      have HR9 := Lib.hid (show RN W101 WA.heap.size d1 d2 d3 i2 W101.heap.size gT (.slice (some ⟨gT, 0, none⟩) N.ends.length N.ends.length) (.slice A8 N.ids.length c8) (.slice A9 N.inputs.length c9) ⟨fillE N (k + 1), N.ids, N.inputs⟩ by rw [HW101.out]; exact HSE.out)
      have HB9 := Lib.hid (BoxN.far OUT99.out hg101 (fun g e => by cases e; omega))
      have HF9 := Lib.hid (HF99.out.grown hg101 (fun g e => .inr (by cases e; have := HGA.out; omega)))
      clear HW101 z1 z3
      clear hS100
      refine anyU_done (by kernel_rfl) ?_ _
      go_wp2_with fail
      go_roundw
      case rel => exact ⟨k + 1, by omega, by go_num, HB9, HR9, HF9⟩
      case measure => simp [intOf]; omega

end Go.Proofs.Ytmdlginjblnfoaa
