/-
  Contracts of the laws' helpers on decompositions, and how a decomposition that came in reads.
-/
import Derived.Test.YtcmmklcampmkjaaDec
import Derived.Test.YtcmmklcampmkjaaNet
import Derived.Test.YtcmmklcampmkjaaOpenNet
namespace Go.Proofs.Ytcmmklcampmkjaa
open Go.ChangeShapes Go.WideShapes Go.ChangeAt Go.RowKit Go.Joins Go.Deep
set_option linter.unusedVariables false

/-- a block of two cells, known whole -/
def Box2 (w : World) (g : Nat) (t : TypeId) (a b : Value) : Prop := w.heap[g]? = some (.cells #[a, b] t (0, 0))
section
variable {w w' : World} {g : Nat} {t : TypeId} {a b : Value}
theorem Box2.lt (h : Box2 w g t a b) : g < w.heap.size := (Array.getElem?_eq_some_iff.1 h).1
theorem Box2.cells (h : Box2 w g t a b) : w.cell? ⟨g, 0, none⟩ = some a ∧ w.cell? ⟨g, 1, none⟩ = some b := by
  refine ⟨?_, ?_⟩ <;> rw [cell_of_row w g _ _ t (0, 0) h] <;> rfl
theorem Box2.frozen (h : Box2 w g t a b) (i : Nat) : w.frozen? ⟨g, i, none⟩ = false := by
  have h' : w.heap[g]? = some (.cells #[a, b] t (0, 0)) := h
  simp [World.frozen?, h']
theorem Box2.new (w : World) (t : TypeId) (a b : Value) : Box2 (w.alloc (.cells #[a, b] t)) w.heap.size t a b := heap_alloc_new w _
theorem Box2.alloc (h : Box2 w g t a b) (o : Obj) : Box2 (w.alloc o) g t a b := (Below.heap_alloc w o g h.lt).trans h
theorem Box2.below {B : Nat} (h : Box2 w g t a b) (hb : Below B w w') (hg : g < B) : Box2 w' g t a b := (hb.block g hg).trans h
theorem Box2.far (h : Box2 w g t a b) {p : Addr} (hp : g ≠ p.block) (u : Value) : Box2 (w.setCell p u) g t a b := (Below.heap_setCell w p u g hp).trans h
theorem Box2.set0 (h : Box2 w g t a b) (u : Value) : Box2 (w.setCell ⟨g, 0, none⟩ u) g t u b := by
  have h' : w.heap[g]? = some (.cells #[a, b] t (0, 0)) := h
  simp [Box2, World.setCell, Array.getElem?_modify, h']
theorem Box2.set1 (h : Box2 w g t a b) (u : Value) : Box2 (w.setCell ⟨g, 1, none⟩ u) g t a u := by
  have h' : w.heap[g]? = some (.cells #[a, b] t (0, 0)) := h
  simp [Box2, World.setCell, Array.getElem?_modify, h']
end
theorem DecX.parts {w : World} {lo hi : Nat} {v : Value} {D : DecD} (h : DecX w lo hi v D) : ∃ A c A2 c2 m, v = .agg #[.slice A D.cluster.length c, .slice A2 D.colour.length c2] ∧ lo ≤ m ∧ m ≤ hi ∧ IntS w lo m (.slice A D.cluster.length c) D.cluster ∧ IntS w m hi (.slice A2 D.colour.length c2) D.colour := by
  obtain ⟨v1, v2, m, rfl, a1, a2, h1, h2⟩ := h
  obtain ⟨A, c, rfl⟩ := h1.shape
  obtain ⟨A2, c2, rfl⟩ := h2.shape
  exact ⟨A, c, A2, c2, m, rfl, a1, a2, h1, h2⟩

set_option maxHeartbeats 1000000 in
theorem szDecomposition_any (v : Value) (D : DecD) (left : Int) (lo hi : Nat) (w : World) (h : Dec w lo hi v D) (hhi : hi ≤ w.heap.size) (h0 : 0 ≤ left) (h1 : left ≤ 1048576) :
    Calls Try.prog 6 #[v, .int .i64 left] w fun e w' => e = .returned (.int .i64 (szr left D.sz)) ∧ Below w.heap.size w w' := by
  obtain ⟨v1, v2, rfl, h1', h2'⟩ := h
  have hz : D.sz = D.cluster.length + D.colour.length := rfl
  have HZ := Lib.hid hz
  clear hz
  have HI := Lib.hid (h1'.below (below_a1 w (.cells #[v1, v2] 27)) hhi)
  have HN := Lib.hid (h2'.below (below_a1 w (.cells #[v1, v2] 27)) hhi)
  obtain ⟨A, c, rfl⟩ := h1'.shape
  obtain ⟨A2, c2, rfl⟩ := h2'.shape
  clear h1' h2'
  go_enter Try.func6, Try.ntmps6
  go_wp2_with fail
  refine (szIntS_any _ D.cluster _ lo hi _ HI.out h0 h1).mono ?_
  rintro e w' ⟨rfl, rfl⟩
  by_cases c1 : (D.cluster.length : Int) ≤ left
  case neg =>
    rw [szr_neg c1]
    go_wp2_with fail
    go_ret
    have := HZ.out
    exact ⟨ret_int (szr_neg (by omega)).symm, below_a1 _ _⟩
  rw [szr_pos c1]
  go_wp2_with fail
  refine (szIntS_any _ D.colour _ lo hi _ HN.out (by omega) (by omega)).mono ?_
  rintro e w' ⟨rfl, rfl⟩
  by_cases c2 : (D.colour.length : Int) ≤ left - D.cluster.length
  case neg =>
    rw [szr_neg c2]
    go_wp2_with fail
    go_ret
    have := HZ.out
    exact ⟨ret_int (szr_neg (by omega)).symm, below_a1 _ _⟩
  rw [szr_pos c2]
  go_wp2_with fail
  go_ret
  have := HZ.out
  exact ⟨ret_int (by rw [szr_pos (by omega)]; omega), below_a1 _ _⟩
theorem szDecomposition_yes (v : Value) (D : DecD) (left : Int) (lo hi : Nat) (w : World) (h : Dec w lo hi v D) (hhi : hi ≤ w.heap.size) (h1 : left ≤ 1048576) (h2 : (D.sz : Int) ≤ left) :
    Calls Try.prog 6 #[v, .int .i64 left] w fun e w' => e = .returned (.int .i64 (left - D.sz)) ∧ Below w.heap.size w w' :=
  (szDecomposition_any v D left lo hi w h hhi (by omega) h1).mono fun e w' ⟨a, b⟩ => ⟨by rw [a, szr_pos h2], b⟩
theorem szDecomposition_no (v : Value) (D : DecD) (left : Int) (lo hi : Nat) (w : World) (h : Dec w lo hi v D) (hhi : hi ≤ w.heap.size) (h0 : 0 ≤ left) (h1 : left ≤ 1048576) (h2 : ¬ (D.sz : Int) ≤ left) :
    Calls Try.prog 6 #[v, .int .i64 left] w fun e w' => e = .returned (.int .i64 (-1)) ∧ Below w.heap.size w w' :=
  (szDecomposition_any v D left lo hi w h hhi h0 h1).mono fun e w' ⟨a, b⟩ => ⟨by rw [a, szr_neg h2], b⟩

set_option maxHeartbeats 1000000 in
theorem toDecomposition_any (v : Value) (D : DecD) (lo hi : Nat) (w : World) (h : Dec w lo hi v D) (hhi : hi ≤ w.heap.size) (hsz : D.sz ≤ 1048576) :
    Calls Try.prog 9 #[v] w fun e w' => ∃ r, e = .returned r ∧ DecX w' w.heap.size w'.heap.size r D ∧ Below w.heap.size w w' := by
  obtain ⟨v1, v2, rfl, hi1, hn1⟩ := h
  unfold DecD.sz at hsz
  have HI := Lib.hid hi1
  have HN := Lib.hid hn1
  obtain ⟨A2, c2, rfl⟩ := hi1.shape
  obtain ⟨A3, c3, rfl⟩ := hn1.shape
  clear hi1 hn1
  go_enter Try.func9, Try.ntmps9
  go_wp2_with fail
  obtain ⟨W0, HW0⟩ : ∃ W0, Hid (W0 = ((w.alloc (.cells #[.slice A2 D.cluster.length c2, .slice A3 D.colour.length c3] 27)).alloc (.cells #[.slice none 0 0, .slice none 0 0] 36)).alloc (.cells #[.slice none 0 0, .slice none 0 0] 36)) := ⟨_, Lib.hid rfl⟩
  rw [← HW0.out]
  have hb0 : Below w.heap.size w W0 := by rw [HW0.out]; exact below_a3 _ _ _ _
  have hs0 : w.heap.size + 3 ≤ W0.heap.size := by rw [HW0.out]; simp
  have b0 : Box2 W0 w.heap.size 27 (.slice A2 D.cluster.length c2) (.slice A3 D.colour.length c3) := by rw [HW0.out]; exact ((Box2.new _ _ _ _).alloc _).alloc _
  have b1 : Box2 W0 (w.heap.size + 1) 36 (.slice none 0 0) (.slice none 0 0) := by
    rw [HW0.out]; refine Box2.alloc ?_ _; have := Box2.new (w.alloc (.cells #[.slice A2 D.cluster.length c2, .slice A3 D.colour.length c3] 27)) 36 (.slice none 0 0) (.slice none 0 0); simpa using this
  have b2 : Box2 W0 (w.heap.size + 1 + 1) 36 (.slice none 0 0) (.slice none 0 0) := by
    rw [HW0.out]; have := Box2.new ((w.alloc (.cells #[.slice A2 D.cluster.length c2, .slice A3 D.colour.length c3] 27)).alloc (.cells #[.slice none 0 0, .slice none 0 0] 36)) 36 (.slice none 0 0) (.slice none 0 0); simpa using this
  clear HW0
  refine (toIntS_any _ D.cluster lo hi _ (HI.out.below hb0 hhi) (by omega) (by omega)).mono ?_
  rintro e w2 ⟨r2, rfl, hr2, hb2⟩
  have hs2 := hb2.size
  have R2 := Lib.hid hr2
  obtain ⟨B2, d2, rfl⟩ := hr2.shape
  clear hr2
  have a0 := b0.below hb2 (by omega)
  have a1 := b1.below hb2 (by omega)
  have a2 := b2.below hb2 (by omega)
  have hw1 := hb0.trans (hb2.mono (by omega))
  clear b0 b1 b2 hb0 hb2
  have e0 := a0.cells.2
  have e1 := a2.cells.1
  have f1 := a2.frozen 0
  go_wp2_with fail
  clear e0 e1 f1
  replace a0 := a0.far (p := ⟨w.heap.size + 1 + 1, 0, none⟩) (by simp; omega) (.slice B2 D.cluster.length d2)
  replace a1 := a1.far (p := ⟨w.heap.size + 1 + 1, 0, none⟩) (by simp) (.slice B2 D.cluster.length d2)
  replace a2 := a2.set0 (.slice B2 D.cluster.length d2)
  replace hw1 := hw1.setCell (p := ⟨w.heap.size + 1 + 1, 0, none⟩) (by simp; omega) (.slice B2 D.cluster.length d2)
  have R2a := Lib.hid (R2.out.setCell (p := ⟨w.heap.size + 1 + 1, 0, none⟩) (by left; simp; omega) (.slice B2 D.cluster.length d2))
  clear R2
  refine (toIntS_any _ D.colour lo hi _ (HN.out.below hw1 hhi) (by rw [size_setCell]; omega) (by omega)).mono ?_
  rintro e w3 ⟨r3, rfl, hr3, hb3⟩
  rw [size_setCell] at hr3 hb3
  have hs3 := hb3.size
  rw [size_setCell] at hs3
  have R3 := Lib.hid hr3
  obtain ⟨B3, d3, rfl⟩ := hr3.shape
  clear hr3
  replace a1 := a1.below hb3 (by omega)
  replace a2 := a2.below hb3 (by omega)
  replace hw1 := hw1.trans (hb3.mono (by omega))
  have R2b := Lib.hid (R2a.out.below hb3 (Nat.le_refl _))
  clear R2a hb3 a0
  obtain ⟨e0, e1⟩ := a2.cells
  obtain ⟨g0, g1⟩ := a1.cells
  have f0 := a2.frozen 1
  have k0 := a1.frozen 0
  have k1 := a1.frozen 1
  go_wp2_with fail
  clear e0 e1 g0 g1 f0 k0 k1
  have z := (((a1.far (p := ⟨w.heap.size + 1 + 1, 1, none⟩) (by simp) (.slice B3 D.colour.length d3)).set0 (.slice B2 D.cluster.length d2)).set1 (.slice B3 D.colour.length d3)).cells
  refine bodyPost_ret (v := .agg #[.slice B2 D.cluster.length d2, .slice B3 D.colour.length d3]) (by simp [results, Try.results9, go_sem, z.1, z.2]) rfl ⟨_, rfl, ?_, ?_⟩
  · have q2 := ((R2b.out.setCell (p := ⟨w.heap.size + 1 + 1, 1, none⟩) (by left; simp; omega) (.slice B3 D.colour.length d3)).setCell (p := ⟨w.heap.size + 1, 0, none⟩) (by left; simp; omega) (.slice B2 D.cluster.length d2)).setCell (p := ⟨w.heap.size + 1, 1, none⟩) (by left; simp; omega) (.slice B3 D.colour.length d3)
    have q3 := ((R3.out.setCell (p := ⟨w.heap.size + 1 + 1, 1, none⟩) (by left; simp; omega) (.slice B3 D.colour.length d3)).setCell (p := ⟨w.heap.size + 1, 0, none⟩) (by left; simp; omega) (.slice B2 D.cluster.length d2)).setCell (p := ⟨w.heap.size + 1, 1, none⟩) (by left; simp; omega) (.slice B3 D.colour.length d3)
    rw [size_setCell, size_setCell, size_setCell]
    exact ⟨_, _, w2.heap.size, rfl, by omega, hs3, q2.mono (by omega) (Nat.le_refl _), q3⟩
  · exact ((hw1.setCell (by simp; omega) _).setCell (by simp) _).setCell (by simp) _

set_option maxHeartbeats 1000000 in
theorem eqDecomposition_same (v1 v2 : Value) (D : DecD) (lo1 hi1 lo2 hi2 : Nat) (w : World) (h1 : Dec w lo1 hi1 v1 D) (h2 : Dec w lo2 hi2 v2 D) (hh1 : hi1 ≤ w.heap.size) (hh2 : hi2 ≤ w.heap.size) :
    Calls Try.prog 12 #[v1, v2] w fun e w' => e = .returned (.bool true) ∧ Below w.heap.size w w' := by
  obtain ⟨vi, vn, rfl, hi, hn⟩ := h1
  obtain ⟨vi', vn', rfl, hi', hn'⟩ := h2
  have HI := Lib.hid hi; have HN := Lib.hid hn
  have HI' := Lib.hid hi'; have HN' := Lib.hid hn'
  obtain ⟨A2, c2, rfl⟩ := hi.shape
  obtain ⟨A3, c3, rfl⟩ := hn.shape
  obtain ⟨A5, c5, rfl⟩ := hi'.shape
  obtain ⟨A6, c6, rfl⟩ := hn'.shape
  clear hi hn hi' hn'
  go_enter Try.func12, Try.ntmps12
  go_wp2_with fail
  obtain ⟨W0, HW0⟩ : ∃ W0, Hid (W0 = (w.alloc (.cells #[.slice A2 D.cluster.length c2, .slice A3 D.colour.length c3] 36)).alloc (.cells #[.slice A5 D.cluster.length c5, .slice A6 D.colour.length c6] 36)) := ⟨_, Lib.hid rfl⟩
  rw [← HW0.out]
  have hb0 : Below w.heap.size w W0 := by rw [HW0.out]; exact below_a2 _ _ _
  have hs0 : w.heap.size + 2 ≤ W0.heap.size := by rw [HW0.out]; simp
  have b0 : Box2 W0 w.heap.size 36 (.slice A2 D.cluster.length c2) (.slice A3 D.colour.length c3) := by rw [HW0.out]; exact (Box2.new _ _ _ _).alloc _
  have b1 : Box2 W0 (w.heap.size + 1) 36 (.slice A5 D.cluster.length c5) (.slice A6 D.colour.length c6) := by
    rw [HW0.out]; have := Box2.new (w.alloc (.cells #[.slice A2 D.cluster.length c2, .slice A3 D.colour.length c3] 36)) 36 (.slice A5 D.cluster.length c5) (.slice A6 D.colour.length c6); simpa using this
  clear HW0
  refine (eqIntS_same _ _ D.cluster lo1 hi1 lo2 hi2 _ (HI.out.below hb0 hh1) (HI'.out.below hb0 hh2) (by omega) (by omega)).mono ?_
  rintro e w2 ⟨rfl, hb2⟩
  have hs2 := hb2.size
  have a0 := b0.below hb2 (by omega)
  have a1 := b1.below hb2 (by omega)
  have hw1 := hb0.trans (hb2.mono (by omega))
  clear hb0 hb2 b0 b1
  have e0 := a0.cells.2
  have e1 := a1.cells.2
  go_wp2_with fail
  clear e0 e1
  refine (eqIntS_same _ _ D.colour lo1 hi1 lo2 hi2 _ (HN.out.below hw1 hh1) (HN'.out.below hw1 hh2) (by omega) (by omega)).mono ?_
  rintro e w3 ⟨rfl, hb3⟩
  go_wp2_with fail
  go_ret
  exact ⟨rfl, hw1.trans (hb3.mono (by omega))⟩

/-- what mark leaves in a decomposition -/
def DecD.mk_ (k : Int) (D : DecD) : DecD := ⟨run k D.cluster.length, run (k + D.cluster.length) D.colour.length⟩

set_option maxHeartbeats 1000000 in
theorem markDecomposition_any (v : Value) (D : DecD) (k : Int) (lo hi : Nat) (w : World) (h : DecX w lo hi v D) (hhi : hi ≤ w.heap.size) (hk0 : 0 ≤ k) (hk1 : k ≤ 1073741824) (hn : D.cnt ≤ 1073741824) :
    Calls Try.prog 19 #[v, .int .i64 k] w fun e w' => e = .returned (.int .i64 (k + D.cnt)) ∧ DecX w' lo hi v (D.mk_ k) ∧ Turned lo hi w w' := by
  obtain ⟨A2, c2, A3, c3, m2, rfl, h2, h3, hi, hn0⟩ := h.parts
  have hz : D.cnt = D.cluster.length + D.colour.length := rfl
  rw [hz] at hn
  have HZ := Lib.hid hz; clear hz
  have HI := Lib.hid hi; have HN := Lib.hid hn0
  clear hi hn0 h
  go_enter Try.func19, Try.ntmps19
  go_wp2_with fail
  obtain ⟨W0, HW0⟩ : ∃ W0, Hid (W0 = w.alloc (.cells #[.slice A2 D.cluster.length c2, .slice A3 D.colour.length c3] 36)) := ⟨_, Lib.hid rfl⟩
  rw [← HW0.out]
  have hb0 : Below w.heap.size w W0 := by rw [HW0.out]; exact below_a1 _ _
  have hs0 : w.heap.size + 1 ≤ W0.heap.size := by rw [HW0.out]; simp
  have b0 : Box2 W0 w.heap.size 36 (.slice A2 D.cluster.length c2) (.slice A3 D.colour.length c3) := by rw [HW0.out]; exact Box2.new _ _ _ _
  have I1 := Lib.hid (HI.out.below hb0 (by omega))
  have N1 := Lib.hid (HN.out.below hb0 (by omega))
  clear HW0
  refine (markIntS_any _ D.cluster _ lo m2 _ I1.out (by omega) (by omega) (by omega) (by omega)).mono ?_
  rintro e w2 ⟨rfl, hr2, hg2, hz2⟩
  have ht2 : Turned lo m2 W0 w2 := Turned.of_row I1.out hg2
  have hs2 := ht2.size
  have R2 := Lib.hid hr2
  have a0 : Box2 w2 w.heap.size 36 (.slice A2 D.cluster.length c2) (.slice A3 D.colour.length c3) := (ht2.block _ (by omega) (by omega)).trans b0
  have T2 := (Turned.of_below hb0 (Nat.le_refl _)).trans (ht2.mono (Nat.le_refl _) h3)
  have N2 := Lib.hid (N1.out.turned ht2 (by omega) (by omega))
  clear hr2 hg2 hz2 ht2 N1 b0 hb0
  have e0 := a0.cells.2
  go_wp2_with fail
  clear e0
  refine (markIntS_any _ D.colour _ m2 hi _ N2.out (by omega) (by omega) (by omega) (by omega)).mono ?_
  rintro e w3 ⟨rfl, hr3, hg3, hz3⟩
  have ht3 : Turned m2 hi w2 w3 := Turned.of_row N2.out hg3
  go_wp2_with fail
  go_ret
  have hzz := HZ.out
  refine ⟨ret_int (by omega), ⟨_, _, m2, rfl, h2, h3, ?_, hr3⟩, T2.trans (ht3.mono h2 (Nat.le_refl _))⟩
  exact R2.out.turned ht3 (by omega) (by omega)


set_option maxHeartbeats 1000000 in
theorem heldDecomposition_yes (v : Value) (D : DecD) (k : Int) (lo hi : Nat) (w : World) (h : Dec w lo hi v (D.mk_ k)) (hhi : hi ≤ w.heap.size) (hk0 : 0 ≤ k) (hk1 : k ≤ 1073741824) (hn : D.cnt ≤ 1073741824) :
    Calls Try.prog 20 #[v, .int .i64 k] w fun e w' => e = .returned (.int .i64 (k + D.cnt)) ∧ Below w.heap.size w w' := by
  obtain ⟨v1, v2, rfl, h1, h2⟩ := h
  have hz : D.cnt = D.cluster.length + D.colour.length := rfl
  rw [hz] at hn
  have HZ := Lib.hid hz; clear hz
  have h1' : IntS w lo hi v1 (run k D.cluster.length) := h1
  have h2' : IntS w lo hi v2 (run (k + D.cluster.length) D.colour.length) := h2
  have H1 := Lib.hid h1'; have H2 := Lib.hid h2'
  obtain ⟨A2, c2, rfl⟩ := h1'.shape
  obtain ⟨A3, c3, rfl⟩ := h2'.shape
  clear h1 h2 h1' h2'
  obtain ⟨n1, HN1⟩ : ∃ n, Hid ((run k D.cluster.length).length = n) := ⟨_, Lib.hid rfl⟩
  obtain ⟨n2, HN2⟩ : ∃ n, Hid ((run (k + D.cluster.length) D.colour.length).length = n) := ⟨_, Lib.hid rfl⟩
  rw [HN1.out, HN2.out]
  rw [HN1.out] at H1
  rw [HN2.out] at H2
  go_enter Try.func20, Try.ntmps20
  go_wp2_with fail
  obtain ⟨W0, HW0⟩ : ∃ W0, Hid (W0 = w.alloc (.cells #[.slice A2 n1 c2, .slice A3 n2 c3] 36)) := ⟨_, Lib.hid rfl⟩
  rw [← HW0.out]
  have hb0 : Below w.heap.size w W0 := by rw [HW0.out]; exact below_a1 _ _
  have hs0 : w.heap.size + 1 ≤ W0.heap.size := by rw [HW0.out]; simp
  have b0 : Box2 W0 w.heap.size 36 (.slice A2 n1 c2) (.slice A3 n2 c3) := by rw [HW0.out]; exact Box2.new _ _ _ _
  clear HW0
  refine (heldIntS_yes _ D.cluster k lo hi _ (H1.out.below hb0 hhi) hk0 (by omega) (by omega)).mono ?_
  rintro e w1 ⟨rfl, hb1⟩
  have a0 := b0.below hb1 (by omega)
  have e0 := a0.cells.2
  have hw1 := hb0.trans (hb1.mono (by omega))
  have hs1 := hb1.size
  clear hb0 hb1 b0 a0
  go_wp2_with fail
  clear e0
  refine (heldIntS_yes _ D.colour (k + D.cluster.length) lo hi _ (H2.out.below hw1 hhi) (by omega) (by omega) (by omega)).mono ?_
  rintro e w2 ⟨rfl, hb2⟩
  go_wp2_with fail
  go_ret
  have hzz := HZ.out
  exact ⟨ret_int (by omega), hw1.trans (hb2.mono (by omega))⟩

section
variable {H : Type} {enc : TypeId × Value → H} {W : World}
set_option maxRecDepth 100000 in
theorem open_Dec {r : Reach} {b0 : Nat} {v : Value} {d : DataW H} {p : List MemPlace}
    (hv : Value.okWide Try.prog W r b0 27 v) (h : DataW.Trod enc Try.prog W 0 (fun _ => true) true 27 v d p) (hfz : W.noneFrozen p) :
    ∃ D, Dec W 0 W.heap.size v D ∧ D.Ok := by
  obtain ⟨v1, v2, y1, y2, n, rfl, rfl, rfl, h1, h2⟩ := open_agg2 Try.underlying27 (by kernel_rfl) (by kernel_rfl) hv h
  have z1 : W.noneFrozen y1.2 := fun b off hb => hfz b off (by simp [hb])
  have z2 : W.noneFrozen y2.2 := fun b off hb => hfz b off (by simp [hb])
  obtain ⟨ids, i1, i2⟩ := open_IntS_trod Try.underlying23 Try.underlying3 (by kernel_rfl) h1 z1
  obtain ⟨ins, n1, n2⟩ := open_IntS_trod Try.underlying23 Try.underlying3 (by kernel_rfl) h2 z2
  exact ⟨⟨ids, ins⟩, ⟨v1, v2, rfl, i1, n1⟩, ⟨i2, n2⟩⟩
end

end Go.Proofs.Ytcmmklcampmkjaa
