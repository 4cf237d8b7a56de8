/-
  Contracts of the laws' helpers on networks: szNetwork counts, toNetwork copies, eqNetwork compares, markNetwork writes.
-/
import Derived.Test.YtmdlginjblnfoaaEnds
import Derived.Test.YtmdlginjblnfoaaIntSS
import Derived.Test.YtmdlginjblnfoaaOpen
namespace Go.Proofs.Ytmdlginjblnfoaa
open Go.ChangeShapes Go.WideShapes Go.ChangeAt Go.RowKit
set_option linter.unusedVariables false

def NetD.sz (N : NetD) : Nat := szSS N.ends + N.ids.length + N.inputs.length
def NetD.cnt (N : NetD) : Nat := 2 * cntSS N.ends + N.ids.length + N.inputs.length
/-- every number of the network fits an int -/
structure NetD.Ok (N : NetD) : Prop where
  ends : ∀ l ∈ N.ends, ∀ e ∈ l, I64 e.1 ∧ I64 e.2
  ids : ∀ z ∈ N.ids, I64 z
  inputs : ∀ z ∈ N.inputs, I64 z

theorem cnt_le_sz {α : Type} (xss : List (List α)) : cntSS xss ≤ szSS xss := by unfold szSS; omega
theorem NetD.cnt_le (N : NetD) : N.cnt ≤ 2 * N.sz := by unfold NetD.cnt NetD.sz szSS; omega
theorem szr_pos {left : Int} {n : Nat} (h : (n : Int) ≤ left) : szr left n = left - n := by unfold szr; rw [if_pos h]
theorem szr_neg {left : Int} {n : Nat} (h : ¬ (n : Int) ≤ left) : szr left n = -1 := by unfold szr; rw [if_neg h]

set_option maxHeartbeats 1000000 in
theorem szNetwork_any (v : Value) (N : NetD) (left : Int) (lo hi : Nat) (w : World) (h : Net w lo hi v N) (hhi : hi ≤ w.heap.size) (h0 : 0 ≤ left) (h1 : left ≤ 1048576) :
    Calls Try.prog 5 #[v, .int .i64 left] w fun e w' => e = .returned (.int .i64 (szr left N.sz)) ∧ Below w.heap.size w w' := by
  obtain ⟨ve, vi, vn, rfl, he, hi1, hn1⟩ := h
  have hz : N.sz = szSS N.ends + N.ids.length + N.inputs.length := rfl
  have HZ := Lib.hid hz
  clear hz
  have HE := Lib.hid (ESS.below he (below_a1 w (.cells #[ve, vi, vn] 25)) hhi)
  have HI := Lib.hid (hi1.below (below_a1 w (.cells #[ve, vi, vn] 25)) hhi)
  have HN := Lib.hid (hn1.below (below_a1 w (.cells #[ve, vi, vn] 25)) hhi)
  obtain ⟨A, c, rfl⟩ := he.shape
  obtain ⟨A2, c2, rfl⟩ := hi1.shape
  obtain ⟨A3, c3, rfl⟩ := hn1.shape
  clear he hi1 hn1
  go_enter Try.func5, Try.ntmps5
  go_wp2_with fail
  refine (szEndSS_any _ N.ends _ lo hi _ HE.out h0 h1).mono ?_
  rintro e w' ⟨rfl, rfl⟩
  by_cases c1 : (szSS N.ends : Int) ≤ left
  case neg =>
    rw [szr_neg c1]
    go_wp2_with fail
    go_ret
    have := HZ.out
    exact ⟨ret_int (szr_neg (by omega)).symm, below_a1 _ _⟩
  rw [szr_pos c1]
  go_wp2_with fail
  refine (szIntS_any _ N.ids _ lo hi _ HI.out (by omega) (by omega)).mono ?_
  rintro e w' ⟨rfl, rfl⟩
  by_cases c2 : (N.ids.length : Int) ≤ left - szSS N.ends
  case neg =>
    rw [szr_neg c2]
    go_wp2_with fail
    go_ret
    have := HZ.out
    exact ⟨ret_int (szr_neg (by omega)).symm, below_a1 _ _⟩
  rw [szr_pos c2]
  go_wp2_with fail
  refine (szIntS_any _ N.inputs _ lo hi _ HN.out (by omega) (by omega)).mono ?_
  rintro e w' ⟨rfl, rfl⟩
  by_cases c3 : (N.inputs.length : Int) ≤ left - szSS N.ends - N.ids.length
  case neg =>
    rw [szr_neg c3]
    go_wp2_with fail
    go_ret
    have := HZ.out
    exact ⟨ret_int (szr_neg (by omega)).symm, below_a1 _ _⟩
  rw [szr_pos c3]
  go_wp2_with fail
  go_ret
  have := HZ.out
  exact ⟨ret_int (by rw [szr_pos (by omega)]; omega), below_a1 _ _⟩
theorem szNetwork_yes (v : Value) (N : NetD) (left : Int) (lo hi : Nat) (w : World) (h : Net w lo hi v N) (hhi : hi ≤ w.heap.size) (h1 : left ≤ 1048576) (h2 : (N.sz : Int) ≤ left) :
    Calls Try.prog 5 #[v, .int .i64 left] w fun e w' => e = .returned (.int .i64 (left - N.sz)) ∧ Below w.heap.size w w' :=
  (szNetwork_any v N left lo hi w h hhi (by omega) h1).mono fun e w' ⟨a, b⟩ => ⟨by rw [a, szr_pos h2], b⟩
theorem szNetwork_no (v : Value) (N : NetD) (left : Int) (lo hi : Nat) (w : World) (h : Net w lo hi v N) (hhi : hi ≤ w.heap.size) (h0 : 0 ≤ left) (h1 : left ≤ 1048576) (h2 : ¬ (N.sz : Int) ≤ left) :
    Calls Try.prog 5 #[v, .int .i64 left] w fun e w' => e = .returned (.int .i64 (-1)) ∧ Below w.heap.size w w' :=
  (szNetwork_any v N left lo hi w h hhi h0 h1).mono fun e w' ⟨a, b⟩ => ⟨by rw [a, szr_neg h2], b⟩

set_option maxHeartbeats 1000000 in
theorem toNetwork_any (v : Value) (N : NetD) (lo hi : Nat) (w : World) (h : Net w lo hi v N) (hhi : hi ≤ w.heap.size) (hsz : N.sz ≤ 1048576) :
    Calls Try.prog 7 #[v] w fun e w' => ∃ r, e = .returned r ∧ NetX w' w.heap.size w'.heap.size r N ∧ Below w.heap.size w w' := by
  obtain ⟨ve, vi, vn, rfl, he, hi1, hn1⟩ := h
  unfold NetD.sz at hsz
  have HE := Lib.hid he
  have HI := Lib.hid hi1
  have HN := Lib.hid hn1
  obtain ⟨A, c, rfl⟩ := he.shape
  obtain ⟨A2, c2, rfl⟩ := hi1.shape
  obtain ⟨A3, c3, rfl⟩ := hn1.shape
  clear he hi1 hn1
  go_enter Try.func7, Try.ntmps7
  go_wp2_with fail
  obtain ⟨W0, HW0⟩ : ∃ W0, Hid (W0 = ((w.alloc (.cells #[.slice A N.ends.length c, .slice A2 N.ids.length c2, .slice A3 N.inputs.length c3] 25)).alloc (.cells #[.slice none 0 0, .slice none 0 0, .slice none 0 0] 31)).alloc (.cells #[.slice none 0 0, .slice none 0 0, .slice none 0 0] 31)) := ⟨_, Lib.hid rfl⟩
  rw [← HW0.out]
  have hb0 : Below w.heap.size w W0 := by rw [HW0.out]; exact below_a3 _ _ _ _
  have hs0 : w.heap.size + 3 ≤ W0.heap.size := by rw [HW0.out]; simp
  have b0 : Box3 W0 w.heap.size 25 (.slice A N.ends.length c) (.slice A2 N.ids.length c2) (.slice A3 N.inputs.length c3) := by rw [HW0.out]; exact ((Box3.new _ _ _ _ _).alloc _).alloc _
  have b1 : Box3 W0 (w.heap.size + 1) 31 (.slice none 0 0) (.slice none 0 0) (.slice none 0 0) := by
    rw [HW0.out]; refine Box3.alloc ?_ _; have := Box3.new (w.alloc (.cells #[.slice A N.ends.length c, .slice A2 N.ids.length c2, .slice A3 N.inputs.length c3] 25)) 31 (.slice none 0 0) (.slice none 0 0) (.slice none 0 0); simpa using this
  have b2 : Box3 W0 (w.heap.size + 1 + 1) 31 (.slice none 0 0) (.slice none 0 0) (.slice none 0 0) := by
    rw [HW0.out]; have := Box3.new ((w.alloc (.cells #[.slice A N.ends.length c, .slice A2 N.ids.length c2, .slice A3 N.inputs.length c3] 25)).alloc (.cells #[.slice none 0 0, .slice none 0 0, .slice none 0 0] 31)) 31 (.slice none 0 0) (.slice none 0 0) (.slice none 0 0); simpa using this
  clear HW0
  refine (toEndSS_any _ N.ends lo hi _ (ESS.below HE.out hb0 hhi) (by omega) (by omega)).mono ?_
  rintro e w1 ⟨r1, rfl, hr1, hb1⟩
  have hs1 := hb1.size
  have R1 := Lib.hid hr1
  obtain ⟨B1, d1, rfl⟩ := hr1.ss.shape
  clear hr1
  have a0 := b0.below hb1 (by omega)
  have a1 := b1.below hb1 (by omega)
  have a2 := b2.below hb1 (by omega)
  have hw1 := hb0.trans (hb1.mono (by omega))
  clear b0 b1 b2 hb0 hb1
  have e0 := a0.cells.2.1
  have e1 := a2.cells.1
  have f1 := a2.frozen 0
  go_wp2_with fail
  clear e0 e1 f1
  replace a0 := a0.far (p := ⟨w.heap.size + 1 + 1, 0, none⟩) (by simp; omega) (.slice B1 N.ends.length d1)
  replace a1 := a1.far (p := ⟨w.heap.size + 1 + 1, 0, none⟩) (by simp) (.slice B1 N.ends.length d1)
  replace a2 := a2.set0 (.slice B1 N.ends.length d1)
  replace hw1 := hw1.setCell (p := ⟨w.heap.size + 1 + 1, 0, none⟩) (by simp; omega) (.slice B1 N.ends.length d1)
  have R1a := Lib.hid (ESSx.setCell R1.out (p := ⟨w.heap.size + 1 + 1, 0, none⟩) (by left; simp; omega) (.slice B1 N.ends.length d1))
  clear R1
  refine (toIntS_any _ N.ids lo hi _ (HI.out.below hw1 hhi) (by rw [size_setCell]; omega) (by omega)).mono ?_
  rintro e w2 ⟨r2, rfl, hr2, hb2⟩
  rw [size_setCell] at hr2 hb2
  have hs2 := hb2.size
  rw [size_setCell] at hs2
  have R2 := Lib.hid hr2
  obtain ⟨B2, d2, rfl⟩ := hr2.shape
  clear hr2
  replace a0 := a0.below hb2 (by omega)
  replace a1 := a1.below hb2 (by omega)
  replace a2 := a2.below hb2 (by omega)
  replace hw1 := hw1.trans (hb2.mono (by omega))
  have R1b := Lib.hid (ESSx.below R1a.out hb2 (Nat.le_refl _))
  clear R1a hb2
  have e0 := a0.cells.2.2
  have e1 := a2.cells.2.1
  have f1 := a2.frozen 1
  go_wp2_with fail
  clear e0 e1 f1
  replace a0 := a0.far (p := ⟨w.heap.size + 1 + 1, 1, none⟩) (by simp; omega) (.slice B2 N.ids.length d2)
  replace a1 := a1.far (p := ⟨w.heap.size + 1 + 1, 1, none⟩) (by simp) (.slice B2 N.ids.length d2)
  replace a2 := a2.set1 (.slice B2 N.ids.length d2)
  replace hw1 := hw1.setCell (p := ⟨w.heap.size + 1 + 1, 1, none⟩) (by simp; omega) (.slice B2 N.ids.length d2)
  have R1c := Lib.hid (ESSx.setCell R1b.out (p := ⟨w.heap.size + 1 + 1, 1, none⟩) (by left; simp; omega) (.slice B2 N.ids.length d2))
  have R2a := Lib.hid (R2.out.setCell (p := ⟨w.heap.size + 1 + 1, 1, none⟩) (by left; simp; omega) (.slice B2 N.ids.length d2))
  clear R1b R2
  refine (toIntS_any _ N.inputs lo hi _ (HN.out.below hw1 hhi) (by rw [size_setCell]; omega) (by omega)).mono ?_
  rintro e w3 ⟨r3, rfl, hr3, hb3⟩
  rw [size_setCell] at hr3 hb3
  have hs3 := hb3.size
  rw [size_setCell] at hs3
  have R3 := Lib.hid hr3
  obtain ⟨B3, d3, rfl⟩ := hr3.shape
  clear hr3
  replace a1 := a1.below hb3 (by omega)
  replace a2 := a2.below hb3 (by omega)
  replace hw1 := hw1.trans (hb3.mono (by omega))
  have R1d := Lib.hid (ESSx.below R1c.out hb3 (by omega))
  have R2b := Lib.hid (R2a.out.below hb3 (Nat.le_refl _))
  clear R1c R2a hb3 a0
  obtain ⟨e0, e1, e2⟩ := a2.cells
  obtain ⟨g0, g1, g2⟩ := a1.cells
  have f0 := a2.frozen 2
  have k0 := a1.frozen 0
  have k1 := a1.frozen 1
  have k2 := a1.frozen 2
  go_wp2_with fail
  clear e0 e1 e2 g0 g1 g2 f0 k0 k1 k2
  have z := ((((a1.far (p := ⟨w.heap.size + 1 + 1, 2, none⟩) (by simp) (.slice B3 N.inputs.length d3)).set0 (.slice B1 N.ends.length d1)).set1 (.slice B2 N.ids.length d2)).set2 (.slice B3 N.inputs.length d3)).cells
  refine bodyPost_ret (v := .agg #[.slice B1 N.ends.length d1, .slice B2 N.ids.length d2, .slice B3 N.inputs.length d3]) (by simp [results, Try.results7, go_sem, z.1, z.2.1, z.2.2]) rfl ⟨_, rfl, ?_, ?_⟩
  · have q1 := ESSx.setCell (ESSx.setCell (ESSx.setCell (ESSx.setCell R1d.out (p := ⟨w.heap.size + 1 + 1, 2, none⟩) (by left; simp; omega) (.slice B3 N.inputs.length d3)) (p := ⟨w.heap.size + 1, 0, none⟩) (by left; simp; omega) (.slice B1 N.ends.length d1)) (p := ⟨w.heap.size + 1, 1, none⟩) (by left; simp; omega) (.slice B2 N.ids.length d2)) (p := ⟨w.heap.size + 1, 2, none⟩) (by left; simp; omega) (.slice B3 N.inputs.length d3)
    have q2 := (((R2b.out.setCell (p := ⟨w.heap.size + 1 + 1, 2, none⟩) (by left; simp; omega) (.slice B3 N.inputs.length d3)).setCell (p := ⟨w.heap.size + 1, 0, none⟩) (by left; simp; omega) (.slice B1 N.ends.length d1)).setCell (p := ⟨w.heap.size + 1, 1, none⟩) (by left; simp; omega) (.slice B2 N.ids.length d2)).setCell (p := ⟨w.heap.size + 1, 2, none⟩) (by left; simp; omega) (.slice B3 N.inputs.length d3)
    have q3 := (((R3.out.setCell (p := ⟨w.heap.size + 1 + 1, 2, none⟩) (by left; simp; omega) (.slice B3 N.inputs.length d3)).setCell (p := ⟨w.heap.size + 1, 0, none⟩) (by left; simp; omega) (.slice B1 N.ends.length d1)).setCell (p := ⟨w.heap.size + 1, 1, none⟩) (by left; simp; omega) (.slice B2 N.ids.length d2)).setCell (p := ⟨w.heap.size + 1, 2, none⟩) (by left; simp; omega) (.slice B3 N.inputs.length d3)
    rw [size_setCell, size_setCell, size_setCell, size_setCell]
    exact ⟨_, _, _, w1.heap.size, w2.heap.size, rfl, by omega, hs2, hs3, ESSx.mono q1 (by omega) (Nat.le_refl _), q2, q3⟩
  · exact (((hw1.setCell (by simp; omega) _).setCell (by simp) _).setCell (by simp) _).setCell (by simp) _

set_option maxHeartbeats 1000000 in
theorem eqNetwork_same (v1 v2 : Value) (N : NetD) (lo1 hi1 lo2 hi2 : Nat) (w : World) (h1 : Net w lo1 hi1 v1 N) (h2 : Net w lo2 hi2 v2 N) (hh1 : hi1 ≤ w.heap.size) (hh2 : hi2 ≤ w.heap.size) :
    Calls Try.prog 10 #[v1, v2] w fun e w' => e = .returned (.bool true) ∧ Below w.heap.size w w' := by
  obtain ⟨ve, vi, vn, rfl, he, hi, hn⟩ := h1
  obtain ⟨ve', vi', vn', rfl, he', hi', hn'⟩ := h2
  have HE := Lib.hid he; have HI := Lib.hid hi; have HN := Lib.hid hn
  have HE' := Lib.hid he'; have HI' := Lib.hid hi'; have HN' := Lib.hid hn'
  obtain ⟨A1, c1, rfl⟩ := he.shape
  obtain ⟨A2, c2, rfl⟩ := hi.shape
  obtain ⟨A3, c3, rfl⟩ := hn.shape
  obtain ⟨A4, c4, rfl⟩ := he'.shape
  obtain ⟨A5, c5, rfl⟩ := hi'.shape
  obtain ⟨A6, c6, rfl⟩ := hn'.shape
  clear he hi hn he' hi' hn'
  go_enter Try.func10, Try.ntmps10
  go_wp2_with fail
  obtain ⟨W0, HW0⟩ : ∃ W0, Hid (W0 = (w.alloc (.cells #[.slice A1 N.ends.length c1, .slice A2 N.ids.length c2, .slice A3 N.inputs.length c3] 31)).alloc (.cells #[.slice A4 N.ends.length c4, .slice A5 N.ids.length c5, .slice A6 N.inputs.length c6] 31)) := ⟨_, Lib.hid rfl⟩
  rw [← HW0.out]
  have hb0 : Below w.heap.size w W0 := by rw [HW0.out]; exact below_a2 _ _ _
  have hs0 : w.heap.size + 2 ≤ W0.heap.size := by rw [HW0.out]; simp
  have b0 : Box3 W0 w.heap.size 31 (.slice A1 N.ends.length c1) (.slice A2 N.ids.length c2) (.slice A3 N.inputs.length c3) := by rw [HW0.out]; exact (Box3.new _ _ _ _ _).alloc _
  have b1 : Box3 W0 (w.heap.size + 1) 31 (.slice A4 N.ends.length c4) (.slice A5 N.ids.length c5) (.slice A6 N.inputs.length c6) := by
    rw [HW0.out]; have := Box3.new (w.alloc (.cells #[.slice A1 N.ends.length c1, .slice A2 N.ids.length c2, .slice A3 N.inputs.length c3] 31)) 31 (.slice A4 N.ends.length c4) (.slice A5 N.ids.length c5) (.slice A6 N.inputs.length c6); simpa using this
  clear HW0
  refine (eqEndSS_same _ _ N.ends lo1 hi1 lo2 hi2 _ (ESS.below HE.out hb0 hh1) (ESS.below HE'.out hb0 hh2) (by omega) (by omega)).mono ?_
  rintro e w1 ⟨rfl, hb1⟩
  have hs1 := hb1.size
  have a0 := b0.below hb1 (by omega)
  have a1 := b1.below hb1 (by omega)
  have hw1 := hb0.trans (hb1.mono (by omega))
  clear b0 b1 hb0 hb1
  have e0 := a0.cells.2.1
  have e1 := a1.cells.2.1
  go_wp2_with fail
  clear e0 e1
  refine (eqIntS_same _ _ N.ids lo1 hi1 lo2 hi2 _ (HI.out.below hw1 hh1) (HI'.out.below hw1 hh2) (by omega) (by omega)).mono ?_
  rintro e w2 ⟨rfl, hb2⟩
  have hs2 := hb2.size
  replace a0 := a0.below hb2 (by omega)
  replace a1 := a1.below hb2 (by omega)
  replace hw1 := hw1.trans (hb2.mono (by omega))
  clear hb2
  have e0 := a0.cells.2.2
  have e1 := a1.cells.2.2
  go_wp2_with fail
  clear e0 e1
  refine (eqIntS_same _ _ N.inputs lo1 hi1 lo2 hi2 _ (HN.out.below hw1 hh1) (HN'.out.below hw1 hh2) (by omega) (by omega)).mono ?_
  rintro e w3 ⟨rfl, hb3⟩
  go_wp2_with fail
  go_ret
  exact ⟨rfl, hw1.trans (hb3.mono (by omega))⟩

/-- what mark leaves in a network -/
def NetD.mk_ (k : Int) (N : NetD) : NetD := ⟨mkEndSS k N.ends, run (k + 2 * cntSS N.ends) N.ids.length, run (k + 2 * cntSS N.ends + N.ids.length) N.inputs.length⟩

set_option maxHeartbeats 1000000 in
theorem markNetwork_any (v : Value) (N : NetD) (k : Int) (lo hi : Nat) (w : World) (h : NetX w lo hi v N) (hhi : hi ≤ w.heap.size) (hk0 : 0 ≤ k) (hk1 : k ≤ 1073741824) (hn : N.cnt ≤ 1073741824) :
    Calls Try.prog 11 #[v, .int .i64 k] w fun e w' => e = .returned (.int .i64 (k + N.cnt)) ∧ NetX w' lo hi v (N.mk_ k) ∧ Turned lo hi w w' := by
  obtain ⟨ve, vi, vn, m1, m2, rfl, h1, h2, h3, he, hi, hn0⟩ := h
  have hz : N.cnt = 2 * cntSS N.ends + N.ids.length + N.inputs.length := rfl
  rw [hz] at hn
  have HZ := Lib.hid hz; clear hz
  have HE := Lib.hid he; have HI := Lib.hid hi; have HN := Lib.hid hn0
  obtain ⟨A1, c1, rfl⟩ := he.ss.shape
  obtain ⟨A2, c2, rfl⟩ := hi.shape
  obtain ⟨A3, c3, rfl⟩ := hn0.shape
  clear he hi hn0
  go_enter Try.func11, Try.ntmps11
  go_wp2_with fail
  obtain ⟨W0, HW0⟩ : ∃ W0, Hid (W0 = w.alloc (.cells #[.slice A1 N.ends.length c1, .slice A2 N.ids.length c2, .slice A3 N.inputs.length c3] 31)) := ⟨_, Lib.hid rfl⟩
  rw [← HW0.out]
  have hb0 : Below w.heap.size w W0 := by rw [HW0.out]; exact below_a1 _ _
  have hs0 : w.heap.size + 1 ≤ W0.heap.size := by rw [HW0.out]; simp
  have b0 : Box3 W0 w.heap.size 31 (.slice A1 N.ends.length c1) (.slice A2 N.ids.length c2) (.slice A3 N.inputs.length c3) := by rw [HW0.out]; exact Box3.new _ _ _ _ _
  clear HW0
  refine (markEndSS_any _ N.ends k lo m1 _ (ESSx.below HE.out hb0 (by omega)) (by omega) hk0 (by omega) (by omega)).mono ?_
  rintro e w1 ⟨rfl, hr1, ht1⟩
  have hs1 := ht1.size
  have R1 := Lib.hid hr1
  have a0 : Box3 w1 w.heap.size 31 (.slice A1 N.ends.length c1) (.slice A2 N.ids.length c2) (.slice A3 N.inputs.length c3) := (ht1.block _ (by omega) (by omega)).trans b0
  have T1 := (Turned.of_below hb0 (Nat.le_refl _)).trans (ht1.mono (Nat.le_refl _) (by omega : m1 ≤ hi))
  have I1 := Lib.hid ((HI.out.below hb0 (by omega)).turned ht1 (by omega) (by omega))
  have N1 := Lib.hid ((HN.out.below hb0 (by omega)).turned ht1 (by omega) (by omega))
  clear hr1 ht1 b0 hb0
  have e0 := a0.cells.2.1
  go_wp2_with fail
  clear e0
  refine (markIntS_any _ N.ids _ m1 m2 _ I1.out (by omega) (by omega) (by omega) (by omega)).mono ?_
  rintro e w2 ⟨rfl, hr2, hg2, hz2⟩
  have ht2 : Turned m1 m2 w1 w2 := Turned.of_row I1.out hg2
  have hs2 := ht2.size
  have R2 := Lib.hid hr2
  have R1b := Lib.hid (ESSx.turned R1.out ht2 (by omega) (by omega))
  replace a0 : Box3 w2 w.heap.size 31 (.slice A1 N.ends.length c1) (.slice A2 N.ids.length c2) (.slice A3 N.inputs.length c3) := (ht2.block _ (by omega) (by omega)).trans a0
  have T2 := T1.trans (ht2.mono h1 h3)
  have N2 := Lib.hid (N1.out.turned ht2 (by omega) (by omega))
  clear hr2 hg2 hz2 ht2 R1 T1 N1
  have e0 := a0.cells.2.2
  go_wp2_with fail
  clear e0
  refine (markIntS_any _ N.inputs _ m2 hi _ N2.out (by omega) (by omega) (by omega) (by omega)).mono ?_
  rintro e w3 ⟨rfl, hr3, hg3, hz3⟩
  have ht3 : Turned m2 hi w2 w3 := Turned.of_row N2.out hg3
  go_wp2_with fail
  go_ret
  have hzz := HZ.out
  refine ⟨ret_int (by omega), ⟨_, _, _, m1, m2, rfl, h1, h2, h3, ESSx.turned R1b.out ht3 (by omega) (by omega), R2.out.turned ht3 (by omega) (by omega), hr3⟩, T2.trans (ht3.mono (by omega) (Nat.le_refl _))⟩

end Go.Proofs.Ytmdlginjblnfoaa
