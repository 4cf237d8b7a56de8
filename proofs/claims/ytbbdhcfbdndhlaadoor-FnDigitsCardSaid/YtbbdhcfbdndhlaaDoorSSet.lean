/-
  Slices of slices of numbers that a call writes into: one number set, one row set. No condition on any program.
-/
import Derived.Test.YtbbdhcfbdndhlaaDoorQuadP
namespace Go.Proofs.YtbbdhcfbdndhlaaDoor
open Go.RowKit
set_option linter.unusedVariables false

/-- one number of a list of lists replaced -/
def setAt (xss : List (List Int)) (a i : Nat) (z : Int) : List (List Int) := xss.set a ((nthL xss a).set i z)
theorem setAt_length (xss : List (List Int)) (a i : Nat) (z : Int) : (setAt xss a i z).length = xss.length := by simp [setAt]
theorem nthL_set {α : Type} {xss : List (List α)} {a : Nat} (ha : a < xss.length) (x : List α) (j : Nat) : nthL (xss.set a x) j = if j = a then x else nthL xss j := by
  unfold nthL
  simp only [List.getD_eq_getElem?_getD, List.getElem?_set]
  by_cases e : a = j
  · subst e; simp [ha]
  · rw [if_neg e, if_neg (fun h => e h.symm)]
theorem nthL_setAt {xss : List (List Int)} {a : Nat} (ha : a < xss.length) (i : Nat) (z : Int) (j : Nat) : nthL (setAt xss a i z) j = if j = a then (nthL xss a).set i z else nthL xss j := nthL_set ha _ _
theorem setAt_row (xss : List (List Int)) {a : Nat} (ha : a < xss.length) (i : Nat) (z : Int) (j : Nat) : (nthL (setAt xss a i z) j).length = (nthL xss j).length := by
  rw [nthL_setAt ha]
  by_cases e : j = a
  · rw [if_pos e, List.length_set, e]
  · rw [if_neg e]

/-- a place of a slice of slices whose rows lie apart: its cells, and what a store leaves -/
theorem ISSx.place {w : World} {lo hi n c : Nat} {A : Option Addr} {xss : List (List Int)} (h : IntSSx w lo hi (.slice A n c) xss) (hh : hi ≤ w.heap.size) {a i : Nat} (ha : a < xss.length) (hi' : i < (nthL xss a).length) :
    ∃ b off b2 o2 c2, A = some ⟨b, off, none⟩ ∧ lo ≤ b ∧ b < hi ∧ lo ≤ b2 ∧ b2 < hi ∧ w.cell? ⟨b, off + a, none⟩ = some (.slice (some ⟨b2, o2, none⟩) (nthL xss a).length c2) ∧ (nthL xss a).length ≤ c2 ∧ c2 ≤ 9223372036854775807 ∧
      w.cell? ⟨b2, o2 + i, none⟩ = some (.int .i64 (nth (nthL xss a) i)) ∧ w.frozen? ⟨b2, o2 + i, none⟩ = false ∧ ∀ z, IntSSx (w.setCell ⟨b2, o2 + i, none⟩ (.int .i64 z)) lo hi (.slice A n c) (setAt xss a i z) := by
  obtain ⟨vs, h1, h2, h3, h4⟩ := h
  have hrow := h2 a ha
  obtain ⟨A2, c2, e2, k1, k2⟩ := IntS.dims hrow
  rw [e2] at hrow
  obtain ⟨b2, o2, rfl, l1, l2, x1, x2⟩ := IntS.opened hrow hi'
  have htop := h1
  obtain ⟨A', c', e, m1, m2, m3⟩ := h1
  injection e with e3 e4 e5
  subst e3 e5
  obtain ⟨b, off, rfl, n1, n2, n3⟩ := m3 (by omega)
  have hva : w.cell? ⟨b, off + a, none⟩ = some (vs a) := (n3 a (by omega)).1
  rw [e2] at hva
  refine ⟨b, off, b2, o2, c2, rfl, n1, n2, l1, l2, hva, k1, k2, x1, x2, fun z => ?_⟩
  have hra : rowOf (nthL xss a).length (vs a) = some b2 := by rw [e2]; exact rowOf_some (by omega)
  have hg : w.grownBy (w.setCell ⟨b2, o2 + i, none⟩ (.int .i64 z)) (some b2) := grown_set w ⟨b2, o2 + i, none⟩ _
  have hlen : ∀ j, (nthL (setAt xss a i z) j).length = (nthL xss j).length := setAt_row xss ha i z
  refine ⟨vs, ?_, fun j hj => ?_, fun j k hjk hk => ?_, fun j hj => ?_⟩
  · rw [setAt_length]
    refine Sl.grown htop hg hh ?_
    have := h4 a ha
    rw [hra] at this
    rcases this with t | t
    · cases t
    · exact .inr fun e => t e.symm
  · rw [setAt_length] at hj
    rw [nthL_setAt ha]
    by_cases ej : j = a
    · subst ej
      rw [if_pos rfl, e2]
      exact hrow.set hi' z
    · rw [if_neg ej]
      refine Sl.grown (h2 j hj) hg hh ?_
      rw [← hra]
      by_cases hlt : j < a
      · exact h3 j a hlt ha
      · rcases h3 a j (by omega) hj with t | t
        · rw [hra] at t; cases t
        · exact .inr fun e => t e.symm
  · rw [setAt_length] at hk
    rw [hlen j, hlen k]
    exact h3 j k hjk hk
  · rw [setAt_length] at hj ⊢
    rw [hlen j]
    exact h4 j hj

/-- one row put in the place of another: the new row lies behind -/
theorem ISSx.setRow {w : World} {lo hi h2 n c b off : Nat} {u : Value} {xss : List (List Int)} {xs : List Int} (h : IntSSx w lo hi (.slice (some ⟨b, off, none⟩) n c) xss) (hle : hi ≤ h2) (hh : h2 ≤ w.heap.size) {a : Nat} (ha : a < xss.length) (hu : IntS w hi h2 u xs) :
    lo ≤ b ∧ b < hi ∧ (∃ x, w.cell? ⟨b, off + a, none⟩ = some x) ∧ w.frozen? ⟨b, off + a, none⟩ = false ∧ IntSSx (w.setCell ⟨b, off + a, none⟩ u) lo h2 (.slice (some ⟨b, off, none⟩) n c) (xss.set a xs) := by
  obtain ⟨vs, h1, h2', h3, h4⟩ := h
  have htop := h1
  obtain ⟨A', c', e, m1, m2, m3⟩ := h1
  injection e with e3 e4 e5
  subst e3 e4 e5
  obtain ⟨b', off', e6, n1, n2, n3⟩ := m3 (by omega)
  injection e6 with e6
  injection e6 with e7 e8
  subst e7 e8
  obtain ⟨x1, x2⟩ := n3 a (by omega)
  refine ⟨n1, n2, ⟨_, x1⟩, x2, ?_⟩
  have hg : w.grownBy (w.setCell ⟨b, off + a, none⟩ u) (some b) := grown_set w ⟨b, off + a, none⟩ _
  have hset : ∀ j, nthL (xss.set a xs) j = if j = a then xs else nthL xss j := nthL_set ha xs
  have htopb : rowOf xss.length (.slice (some ⟨b, off, none⟩) xss.length c) = some b := rowOf_some (by omega)
  have hold : ∀ j, j < xss.length → rowOf (nthL xss j).length (vs j) = none ∨ ∃ g, rowOf (nthL xss j).length (vs j) = some g ∧ lo ≤ g ∧ g < hi := fun j hj => Sl.row (h2' j hj)
  have hnew : rowOf xs.length u = none ∨ ∃ g, rowOf xs.length u = some g ∧ hi ≤ g ∧ g < h2 := Sl.row hu
  refine ⟨fun j => if j = a then u else vs j, ?_, fun j hj => ?_, fun j k hjk hk => ?_, fun j hj => ?_⟩
  · rw [List.length_set]
    exact ((Sl.set htop (j := a) (by omega) u).congr (fun j _ => rfl)).mono (Nat.le_refl _) hle
  · rw [List.length_set] at hj
    rw [hset]
    dsimp only
    by_cases ej : j = a
    · rw [if_pos ej, if_pos ej]
      exact (IntS.far hu hg hh (fun g e => by injection e; omega)).mono (by omega) (Nat.le_refl _)
    · rw [if_neg ej, if_neg ej]
      refine IntS.mono (Sl.grown (h2' j hj) hg (by omega) ?_) (Nat.le_refl _) hle
      have := h4 j hj
      rwa [htopb] at this
  · rw [List.length_set] at hk
    rw [hset j, hset k]
    dsimp only
    by_cases ej : j = a
    · have ek : k ≠ a := by omega
      rw [if_pos ej, if_neg ek, if_pos ej, if_neg ek]
      rcases hnew with t | ⟨g, t, t1, t2⟩
      · exact .inl t
      · right; rw [t]
        rcases hold k hk with s | ⟨g', s, s1, s2⟩
        · rw [s]; simp
        · rw [s]; intro e; injection e; omega
    · rw [if_neg ej, if_neg ej]
      by_cases ek : k = a
      · rw [if_pos ek, if_pos ek]
        rcases hold j (by omega) with s | ⟨g', s, s1, s2⟩
        · exact .inl s
        · right; rw [s]
          rcases hnew with t | ⟨g, t, t1, t2⟩
          · rw [t]; simp
          · rw [t]; intro e; injection e; omega
      · rw [if_neg ek, if_neg ek]
        exact h3 j k hjk hk
  · rw [List.length_set] at hj ⊢
    rw [hset, htopb]
    dsimp only
    by_cases ej : j = a
    · rw [if_pos ej, if_pos ej]
      rcases hnew with t | ⟨g, t, t1, t2⟩
      · exact .inl t
      · right; rw [t]; intro e; injection e; omega
    · rw [if_neg ej, if_neg ej]
      have := h4 j hj
      rwa [htopb] at this
theorem ISSx.far {w w' : World} {lo hi : Nat} {v : Value} {xss : List (List Int)} {row : Option Nat} (h : IntSSx w lo hi v xss) (hg : w.grownBy w' row) (hB : hi ≤ w.heap.size) (hr : ∀ g, row = some g → g < lo ∨ hi ≤ g) : IntSSx w' lo hi v xss :=
  SSx.keep (fun h => IntS.far h hg hB hr) h fun k h1 h2 => hg.block k (by omega) (fun e => by have := hr k e.symm; omega)
theorem ISSx.still {w w' : World} {lo hi : Nat} {v : Value} {xss : List (List Int)} (h : IntSSx w lo hi v xss) (hg : w.grownBy w' none) (hB : hi ≤ w.heap.size) : IntSSx w' lo hi v xss := ISSx.far h hg hB (no_row _ _)
theorem ISSx.dims {w : World} {lo hi : Nat} {v : Value} {xss : List (List Int)} (h : IntSSx w lo hi v xss) : ∃ A c, v = .slice A xss.length c ∧ xss.length ≤ c ∧ c ≤ 9223372036854775807 := SS.dims h.ss
/-- a row of empty slices just made -/
theorem ISSx.made {w : World} {b n : Nat} {t : TypeId} (h : w.rowIs b t n (fun _ => .slice none 0 0)) (hm : n ≤ maxLen) : IntSSx w b (b + 1) (.slice (some ⟨b, 0, none⟩) n n) (List.replicate n []) := by
  refine ⟨fun _ => .slice none 0 0, ?_, fun j hj => ?_, fun j k hjk hk => ?_, fun j hj => ?_⟩
  · refine ⟨_, _, by rw [List.length_replicate], by rw [List.length_replicate]; exact Nat.le_refl _, hm, fun hpos => ⟨b, 0, rfl, Nat.le_refl _, by omega, fun j hj => ?_⟩⟩
    rw [List.length_replicate] at hj
    rw [Nat.zero_add]
    exact ⟨h.cell (by omega), h.frozen j⟩
  · have : nthL (List.replicate n ([] : List Int)) j = [] := by simp [nthL, List.getElem?_replicate]; split <;> rfl
    rw [this]; exact IntS.nil _ _ _
  · left; unfold rowOf; rw [if_pos]; simp [nthL, List.getElem?_replicate]; split <;> rfl
  · left; unfold rowOf; rw [if_pos]; simp [nthL, List.getElem?_replicate]; split <;> rfl

end Go.Proofs.YtbbdhcfbdndhlaaDoor
