/-
  Several texts in one: DecLaw. No condition on any program.
-/
import Derived.Test.YtcmmklcampmkjaaBcQ
import Derived.Test.YtcmmklcampmkjaaBcC
import Derived.Test.YtcmmklcampmkjaaBcR

/- Contracts of the laws' helpers on decompositions, and how a decomposition that came in reads. -/
namespace Go.Proofs.Ytcmmklcampmkjaa
open Go.ChangeShapes Go.WideShapes Go.ChangeAt Go.RowKit Go.Joins Go.Deep
set_option linter.unusedVariables false

/-- a block of two cells, known whole -/
def Box2 (w : World) (g : Nat) (t : TypeId) (a b : Value) : Prop := w.heap[g]? = some (.cells #[a, b] t (0, 0))
section
variable {w w' : World} {g : Nat} {t : TypeId} {a b : Value}
theorem Box2.lt (h : Box2 w g t a b) : g < w.heap.size := (Array.getElem?_eq_some_iff.1 h).1
theorem Box2.cells (h : Box2 w g t a b) : w.cell? ⟨g, 0, none⟩ = some a ∧ w.cell? ⟨g, 1, none⟩ = some b := by
  refine ⟨?_, ?_⟩ <;> rw [cell_of_row w g _ _ t (0, 0) h] <;> rfl
theorem Box2.frozen (h : Box2 w g t a b) (i : Nat) : w.frozen? ⟨g, i, none⟩ = false := by
  have h' : w.heap[g]? = some (.cells #[a, b] t (0, 0)) := h
  simp [World.frozen?, h']
theorem Box2.new (w : World) (t : TypeId) (a b : Value) : Box2 (w.alloc (.cells #[a, b] t)) w.heap.size t a b := heap_alloc_new w _
theorem Box2.alloc (h : Box2 w g t a b) (o : Obj) : Box2 (w.alloc o) g t a b := (Below.heap_alloc w o g h.lt).trans h
theorem Box2.below {B : Nat} (h : Box2 w g t a b) (hb : Below B w w') (hg : g < B) : Box2 w' g t a b := (hb.block g hg).trans h
theorem Box2.far (h : Box2 w g t a b) {p : Addr} (hp : g ≠ p.block) (u : Value) : Box2 (w.setCell p u) g t a b := (Below.heap_setCell w p u g hp).trans h
theorem Box2.set0 (h : Box2 w g t a b) (u : Value) : Box2 (w.setCell ⟨g, 0, none⟩ u) g t u b := by
  have h' : w.heap[g]? = some (.cells #[a, b] t (0, 0)) := h
  simp [Box2, World.setCell, Array.getElem?_modify, h']
theorem Box2.set1 (h : Box2 w g t a b) (u : Value) : Box2 (w.setCell ⟨g, 1, none⟩ u) g t a u := by
  have h' : w.heap[g]? = some (.cells #[a, b] t (0, 0)) := h
  simp [Box2, World.setCell, Array.getElem?_modify, h']
end
theorem DecX.parts {w : World} {lo hi : Nat} {v : Value} {D : DecD} (h : DecX w lo hi v D) : ∃ A c A2 c2 m, v = .agg #[.slice A D.cluster.length c, .slice A2 D.colour.length c2] ∧ lo ≤ m ∧ m ≤ hi ∧ IntS w lo m (.slice A D.cluster.length c) D.cluster ∧ IntS w m hi (.slice A2 D.colour.length c2) D.colour := by
  obtain ⟨v1, v2, m, rfl, a1, a2, h1, h2⟩ := h
  obtain ⟨A, c, rfl⟩ := h1.shape
  obtain ⟨A2, c2, rfl⟩ := h2.shape
  exact ⟨A, c, A2, c2, m, rfl, a1, a2, h1, h2⟩

set_option maxHeartbeats 1000000 in
theorem eqDecomposition_same (v1 v2 : Value) (D : DecD) (lo1 hi1 lo2 hi2 : Nat) (w : World) (h1 : Dec w lo1 hi1 v1 D) (h2 : Dec w lo2 hi2 v2 D) (hh1 : hi1 ≤ w.heap.size) (hh2 : hi2 ≤ w.heap.size) :
    Calls Try.prog 12 #[v1, v2] w fun e w' => e = .returned (.bool true) ∧ Below w.heap.size w w' := by
  obtain ⟨vi, vn, rfl, hi, hn⟩ := h1
  obtain ⟨vi', vn', rfl, hi', hn'⟩ := h2
  have HI := Lib.hid hi; have HN := Lib.hid hn
  have HI' := Lib.hid hi'; have HN' := Lib.hid hn'
  obtain ⟨A2, c2, rfl⟩ := hi.shape
  obtain ⟨A3, c3, rfl⟩ := hn.shape
  obtain ⟨A5, c5, rfl⟩ := hi'.shape
  obtain ⟨A6, c6, rfl⟩ := hn'.shape
  clear hi hn hi' hn'
  go_enter Try.func12, Try.ntmps12
  go_wp2_with fail
  obtain ⟨W0, HW0⟩ : ∃ W0, Hid (W0 = (w.alloc (.cells #[.slice A2 D.cluster.length c2, .slice A3 D.colour.length c3] 36)).alloc (.cells #[.slice A5 D.cluster.length c5, .slice A6 D.colour.length c6] 36)) := ⟨_, Lib.hid rfl⟩
  rw [← HW0.out]
  have hb0 : Below w.heap.size w W0 := by rw [HW0.out]; exact below_a2 _ _ _
  have hs0 : w.heap.size + 2 ≤ W0.heap.size := by rw [HW0.out]; simp
  have b0 : Box2 W0 w.heap.size 36 (.slice A2 D.cluster.length c2) (.slice A3 D.colour.length c3) := by rw [HW0.out]; exact (Box2.new _ _ _ _).alloc _
  have b1 : Box2 W0 (w.heap.size + 1) 36 (.slice A5 D.cluster.length c5) (.slice A6 D.colour.length c6) := by
    rw [HW0.out]; have := Box2.new (w.alloc (.cells #[.slice A2 D.cluster.length c2, .slice A3 D.colour.length c3] 36)) 36 (.slice A5 D.cluster.length c5) (.slice A6 D.colour.length c6); simpa using this
  clear HW0
  refine (eqIntS_same _ _ D.cluster lo1 hi1 lo2 hi2 _ (HI.out.below hb0 hh1) (HI'.out.below hb0 hh2) (by omega) (by omega)).mono ?_
  rintro e w2 ⟨rfl, hb2⟩
  have hs2 := hb2.size
  have a0 := b0.below hb2 (by omega)
  have a1 := b1.below hb2 (by omega)
  have hw1 := hb0.trans (hb2.mono (by omega))
  clear hb0 hb2 b0 b1
  have e0 := a0.cells.2
  have e1 := a1.cells.2
  go_wp2_with fail
  clear e0 e1
  refine (eqIntS_same _ _ D.colour lo1 hi1 lo2 hi2 _ (HN.out.below hw1 hh1) (HN'.out.below hw1 hh2) (by omega) (by omega)).mono ?_
  rintro e w3 ⟨rfl, hb3⟩
  go_wp2_with fail
  go_ret
  exact ⟨rfl, hw1.trans (hb3.mono (by omega))⟩

/-- what mark leaves in a decomposition -/
def DecD.mk_ (k : Int) (D : DecD) : DecD := ⟨run k D.cluster.length, run (k + D.cluster.length) D.colour.length⟩

set_option maxHeartbeats 1000000 in
theorem markDecomposition_any (v : Value) (D : DecD) (k : Int) (lo hi : Nat) (w : World) (h : DecX w lo hi v D) (hhi : hi ≤ w.heap.size) (hk0 : 0 ≤ k) (hk1 : k ≤ 1073741824) (hn : D.cnt ≤ 1073741824) :
    Calls Try.prog 19 #[v, .int .i64 k] w fun e w' => e = .returned (.int .i64 (k + D.cnt)) ∧ DecX w' lo hi v (D.mk_ k) ∧ Turned lo hi w w' := by
  obtain ⟨A2, c2, A3, c3, m2, rfl, h2, h3, hi, hn0⟩ := h.parts
  have hz : D.cnt = D.cluster.length + D.colour.length := rfl
  rw [hz] at hn
  have HZ := Lib.hid hz; clear hz
  have HI := Lib.hid hi; have HN := Lib.hid hn0
  clear hi hn0 h
  go_enter Try.func19, Try.ntmps19
  go_wp2_with fail
  obtain ⟨W0, HW0⟩ : ∃ W0, Hid (W0 = w.alloc (.cells #[.slice A2 D.cluster.length c2, .slice A3 D.colour.length c3] 36)) := ⟨_, Lib.hid rfl⟩
  rw [← HW0.out]
  have hb0 : Below w.heap.size w W0 := by rw [HW0.out]; exact below_a1 _ _
  have hs0 : w.heap.size + 1 ≤ W0.heap.size := by rw [HW0.out]; simp
  have b0 : Box2 W0 w.heap.size 36 (.slice A2 D.cluster.length c2) (.slice A3 D.colour.length c3) := by rw [HW0.out]; exact Box2.new _ _ _ _
  have I1 := Lib.hid (HI.out.below hb0 (by omega))
  have N1 := Lib.hid (HN.out.below hb0 (by omega))
  clear HW0
  refine (markIntS_any _ D.cluster _ lo m2 _ I1.out (by omega) (by omega) (by omega) (by omega)).mono ?_
  rintro e w2 ⟨rfl, hr2, hg2, hz2⟩
  have ht2 : Turned lo m2 W0 w2 := Turned.of_row I1.out hg2
  have hs2 := ht2.size
  have R2 := Lib.hid hr2
  have a0 : Box2 w2 w.heap.size 36 (.slice A2 D.cluster.length c2) (.slice A3 D.colour.length c3) := (ht2.block _ (by omega) (by omega)).trans b0
  have T2 := (Turned.of_below hb0 (Nat.le_refl _)).trans (ht2.mono (Nat.le_refl _) h3)
  have N2 := Lib.hid (N1.out.turned ht2 (by omega) (by omega))
  clear hr2 hg2 hz2 ht2 N1 b0 hb0
  have e0 := a0.cells.2
  go_wp2_with fail
  clear e0
  refine (markIntS_any _ D.colour _ m2 hi _ N2.out (by omega) (by omega) (by omega) (by omega)).mono ?_
  rintro e w3 ⟨rfl, hr3, hg3, hz3⟩
  have ht3 : Turned m2 hi w2 w3 := Turned.of_row N2.out hg3
  go_wp2_with fail
  go_ret
  have hzz := HZ.out
  refine ⟨ret_int (by omega), ⟨_, _, m2, rfl, h2, h3, ?_, hr3⟩, T2.trans (ht3.mono h2 (Nat.le_refl _))⟩
  exact R2.out.turned ht3 (by omega) (by omega)


set_option maxHeartbeats 1000000 in
theorem heldDecomposition_yes (v : Value) (D : DecD) (k : Int) (lo hi : Nat) (w : World) (h : Dec w lo hi v (D.mk_ k)) (hhi : hi ≤ w.heap.size) (hk0 : 0 ≤ k) (hk1 : k ≤ 1073741824) (hn : D.cnt ≤ 1073741824) :
    Calls Try.prog 20 #[v, .int .i64 k] w fun e w' => e = .returned (.int .i64 (k + D.cnt)) ∧ Below w.heap.size w w' := by
  obtain ⟨v1, v2, rfl, h1, h2⟩ := h
  have hz : D.cnt = D.cluster.length + D.colour.length := rfl
  rw [hz] at hn
  have HZ := Lib.hid hz; clear hz
  have h1' : IntS w lo hi v1 (run k D.cluster.length) := h1
  have h2' : IntS w lo hi v2 (run (k + D.cluster.length) D.colour.length) := h2
  have H1 := Lib.hid h1'; have H2 := Lib.hid h2'
  obtain ⟨A2, c2, rfl⟩ := h1'.shape
  obtain ⟨A3, c3, rfl⟩ := h2'.shape
  clear h1 h2 h1' h2'
  obtain ⟨n1, HN1⟩ : ∃ n, Hid ((run k D.cluster.length).length = n) := ⟨_, Lib.hid rfl⟩
  obtain ⟨n2, HN2⟩ : ∃ n, Hid ((run (k + D.cluster.length) D.colour.length).length = n) := ⟨_, Lib.hid rfl⟩
  rw [HN1.out, HN2.out]
  rw [HN1.out] at H1
  rw [HN2.out] at H2
  go_enter Try.func20, Try.ntmps20
  go_wp2_with fail
  obtain ⟨W0, HW0⟩ : ∃ W0, Hid (W0 = w.alloc (.cells #[.slice A2 n1 c2, .slice A3 n2 c3] 36)) := ⟨_, Lib.hid rfl⟩
  rw [← HW0.out]
  have hb0 : Below w.heap.size w W0 := by rw [HW0.out]; exact below_a1 _ _
  have hs0 : w.heap.size + 1 ≤ W0.heap.size := by rw [HW0.out]; simp
  have b0 : Box2 W0 w.heap.size 36 (.slice A2 n1 c2) (.slice A3 n2 c3) := by rw [HW0.out]; exact Box2.new _ _ _ _
  clear HW0
  refine (heldIntS_yes _ D.cluster k lo hi _ (H1.out.below hb0 hhi) hk0 (by omega) (by omega)).mono ?_
  rintro e w1 ⟨rfl, hb1⟩
  have a0 := b0.below hb1 (by omega)
  have e0 := a0.cells.2
  have hw1 := hb0.trans (hb1.mono (by omega))
  have hs1 := hb1.size
  clear hb0 hb1 b0 a0
  go_wp2_with fail
  clear e0
  refine (heldIntS_yes _ D.colour (k + D.cluster.length) lo hi _ (H2.out.below hw1 hhi) (by omega) (by omega) (by omega)).mono ?_
  rintro e w2 ⟨rfl, hb2⟩
  go_wp2_with fail
  go_ret
  have hzz := HZ.out
  exact ⟨ret_int (by omega), hw1.trans (hb2.mono (by omega))⟩

section
variable {H : Type} {enc : TypeId × Value → H} {W : World}
end

end Go.Proofs.Ytcmmklcampmkjaa
