/-
  Slices of slices of numbers that a call writes into: two numbers set. No condition on any program.
-/
import Derived.Test.YtcmmklcampmkjaaSSet
namespace Go.Proofs.Ytcmmklcampmkjaa
open Go.RowKit
set_option linter.unusedVariables false

theorem ISSx.apart {w : World} {lo hi n c : Nat} {b off b2 o2 n2 c2 : Nat} {xss : List (List Int)} (h : IntSSx w lo hi (.slice (some ⟨b, off, none⟩) n c) xss) {a : Nat} (ha : a < xss.length) (hpos : 0 < (nthL xss a).length) (hc : w.cell? ⟨b, off + a, none⟩ = some (.slice (some ⟨b2, o2, none⟩) n2 c2)) : b ≠ b2 := by
  obtain ⟨vs, h1, h2, h3, h4⟩ := h
  obtain ⟨A', c', e, m1, m2, m3⟩ := h1
  injection e with e3 e4 e5
  subst e3 e4 e5
  obtain ⟨b', off', e6, n1, n2', n3⟩ := m3 (by omega)
  injection e6 with e6
  injection e6 with e7 e8
  subst e7 e8
  have hva := (n3 a (by omega)).1
  rw [hc] at hva
  injection hva with hva
  have hr := h4 a ha
  rw [← hva, rowOf_some (show 0 < xss.length by omega)] at hr
  unfold rowOf at hr
  rw [if_neg (by omega)] at hr
  rcases hr with t | t
  · cases t
  · intro e; exact t (by rw [e]; rfl)
/-- two places of a slice of slices: their cells, and what two stores leave -/
theorem ISSx.place2 {w : World} {lo hi n c : Nat} {A : Option Addr} {xss : List (List Int)} (h : IntSSx w lo hi (.slice A n c) xss) (hh : hi ≤ w.heap.size) {a i d j : Nat} (ha : a < xss.length) (hi' : i < (nthL xss a).length) (hd : d < xss.length) (hj : j < (nthL xss d).length) :
    ∃ b off b2 o2 c2 b3 o3 c3, A = some ⟨b, off, none⟩ ∧ lo ≤ b ∧ b < hi ∧ lo ≤ b2 ∧ b2 < hi ∧ lo ≤ b3 ∧ b3 < hi ∧ w.cell? ⟨b, off + a, none⟩ = some (.slice (some ⟨b2, o2, none⟩) (nthL xss a).length c2) ∧ (nthL xss a).length ≤ c2 ∧ c2 ≤ 9223372036854775807 ∧
      w.cell? ⟨b, off + d, none⟩ = some (.slice (some ⟨b3, o3, none⟩) (nthL xss d).length c3) ∧ (nthL xss d).length ≤ c3 ∧ c3 ≤ 9223372036854775807 ∧
      w.cell? ⟨b2, o2 + i, none⟩ = some (.int .i64 (nth (nthL xss a) i)) ∧ w.frozen? ⟨b2, o2 + i, none⟩ = false ∧ w.cell? ⟨b3, o3 + j, none⟩ = some (.int .i64 (nth (nthL xss d) j)) ∧ w.frozen? ⟨b3, o3 + j, none⟩ = false ∧
      ∀ z, (∃ y, (w.setCell ⟨b2, o2 + i, none⟩ (.int .i64 z)).cell? ⟨b3, o3 + j, none⟩ = some (.int .i64 y)) ∧ (w.setCell ⟨b2, o2 + i, none⟩ (.int .i64 z)).cell? ⟨b, off + d, none⟩ = some (.slice (some ⟨b3, o3, none⟩) (nthL xss d).length c3) ∧
        IntSSx ((w.setCell ⟨b2, o2 + i, none⟩ (.int .i64 z)).setCell ⟨b3, o3 + j, none⟩ (.int .i64 z)) lo hi (.slice A n c) (setAt (setAt xss a i z) d j z) := by
  obtain ⟨b, off, b2, o2, c2, rfl, p1, p2, p3, p4, p5, p6, p7, p8, p9, pset⟩ := ISSx.place h hh ha hi'
  obtain ⟨b', off', b3, o3, c3, e1, q1, q2, q3, q4, q5, q6, q7, q8, q9, qset⟩ := ISSx.place h hh hd hj
  injection e1 with e1
  injection e1 with e2 e3
  subst e2 e3
  have hap := ISSx.apart h ha (by omega) p5
  refine ⟨b, off, b2, o2, c2, b3, o3, c3, rfl, p1, p2, p3, p4, q3, q4, p5, p6, p7, q5, q6, q7, p8, p9, q8, q9, fun z => ?_⟩
  have htop : (w.setCell ⟨b2, o2 + i, none⟩ (.int .i64 z)).cell? ⟨b, off + d, none⟩ = some (.slice (some ⟨b3, o3, none⟩) (nthL xss d).length c3) := by
    rw [World.cell?_setCell_other _ _ _ _ (by intro e; injection e with e _ _; exact hap e.symm)]; exact q5
  have hrow := setAt_row xss ha i z d
  obtain ⟨b5, off5, b6, o6, c6, e1, r1, r2, r3, r4, r5, r6, r7, r8, r9, rset⟩ := ISSx.place (pset z) (by rw [size_setCell]; exact hh) (a := d) (i := j) (by rw [setAt_length]; exact hd) (by rw [hrow]; exact hj)
  injection e1 with e1
  injection e1 with e2 e3
  subst e2 e3
  rw [htop, hrow] at r5
  injection r5 with r5
  injection r5 with r5 _ _
  injection r5 with r5
  injection r5 with r10 r11
  subst r10 r11
  exact ⟨⟨_, r8⟩, htop, rset z⟩

end Go.Proofs.Ytcmmklcampmkjaa
