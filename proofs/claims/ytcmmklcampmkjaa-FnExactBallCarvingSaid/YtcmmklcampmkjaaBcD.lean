/-
  Several texts in one: Good, TreeP, DistP, Repeat, Ext. No condition on any program.
-/
import Derived.Test.YtcmmklcampmkjaaBcB
import Derived.Test.YtcmmklcampmkjaaBcC
import Derived.Test.YtcmmklcampmkjaaShelf
import Derived.Deep.RegionHeld3
import Derived.IntWalk
import Derived.Test.YtcmmklcampmkjaaBcA
import Derived.Laws.IdiomCopy
import Derived.Deep.Quiet
import Derived.BigQuiet

/- Contracts of IsNetwork (program) and neGood (reference): both say whether a network is one. -/
namespace Go.Proofs.Ytcmmklcampmkjaa
open Go.ChangeShapes Go.WideShapes Go.ChangeAt Go.RowKit
set_option linter.unusedVariables false

set_option maxHeartbeats 400000 in
theorem hasNode_any (v : Value) (N : NetD) (x : Int) (lo hi : Nat) (w : World) (h : Net w lo hi v N) (hhi : hi ≤ w.heap.size) :
    Calls Try.prog 92 #[v, .int .i64 x] w fun e w' => e = .returned (.bool (inB x 0 ((N.ends.length : Int) - 1))) ∧ Below w.heap.size w w' := by
  obtain ⟨ve, vi, vn, rfl, he, hi1, hn1⟩ := h
  obtain ⟨A, c, rfl, hc1, hc2, _⟩ := he.form
  unfold maxLen at hc2
  obtain ⟨A2, c2, rfl⟩ := hi1.shape
  obtain ⟨A3, c3, rfl⟩ := hn1.shape
  clear he hi1 hn1
  go_enter Try.func92, Try.ntmps92
  go_wp2_with (go_at_call 76; refine (within_any _ _ _ _).mono ?_; rintro e w' ⟨rfl, rfl⟩)
  go_ret
  exact ⟨rfl, below_a1 _ _⟩

/-- a port of a network -/
def NetD.port (N : NetD) (x i : Int) : Bool := inB x 0 ((N.ends.length : Int) - 1) && inB i 0 (((nthL N.ends x.toNat).length : Int) - 1)

set_option maxHeartbeats 1000000 in
theorem hasPort_any (v : Value) (N : NetD) (x i : Int) (lo hi : Nat) (w : World) (h : Net w lo hi v N) (hhi : hi ≤ w.heap.size) :
    Calls Try.prog 79 #[v, .int .i64 x, .int .i64 i] w fun e w' => e = .returned (.bool (N.port x i)) ∧ Below w.heap.size w w' := by
  have HN := Lib.hid h
  obtain ⟨ve, vi, vn, rfl, he, hi1, hn1⟩ := h
  obtain ⟨A, c, rfl, hc1, hc2, hcell⟩ := he.form
  unfold maxLen at hc2
  obtain ⟨A2, c2, rfl⟩ := hi1.shape
  obtain ⟨A3, c3, rfl⟩ := hn1.shape
  clear he hi1 hn1
  have hb0 : Below w.heap.size w (w.alloc (.cells #[.slice A N.ends.length c, .slice A2 N.ids.length c2, .slice A3 N.inputs.length c3] 34)) := below_a1 _ _
  have HN1 := Lib.hid (HN.out.below hb0 hhi)
  have b0 := Box3.new w 34 (.slice A N.ends.length c) (.slice A2 N.ids.length c2) (.slice A3 N.inputs.length c3)
  by_cases hx : inB x 0 ((N.ends.length : Int) - 1) = true
  · obtain ⟨x0, x1⟩ := inB_le hx
    obtain ⟨n, rfl⟩ : ∃ n : Nat, x = n := ⟨x.toNat, by omega⟩
    obtain ⟨b, off, rfl, hb1, hb2, hcs⟩ := hcell (by omega)
    obtain ⟨u, hu, hR⟩ := hcs n (by omega)
    obtain ⟨A4, c4, rfl, hd1, hd2, _⟩ := hR.form
    unfold maxLen at hd2
    clear hcs hcell hR
    have hu' := (hb0.cell (p := ⟨b, off + n, none⟩) (by show b < _; omega)).trans hu
    go_enter Try.func79, Try.ntmps79
    go_wp2_with fail
    refine (hasNode_any _ N _ lo hi _ HN1.out (by simp; omega)).mono ?_
    rintro e w1 ⟨rfl, hbq⟩
    rw [hx]
    have q0 := (b0.below hbq (by simp)).cells.1
    have q1 := (hbq.cell (p := ⟨b, off + n, none⟩) (by simp; omega)).trans hu'
    go_wp2_with (go_at_call 76; refine (within_any _ _ _ _).mono ?_; rintro e w' ⟨rfl, rfl⟩)
    go_ret
    exact ⟨ret_bool (by unfold NetD.port; rw [hx, Int.toNat_natCast]; rfl), hb0.trans (hbq.mono (by simp))⟩
  · have hx' : inB x 0 ((N.ends.length : Int) - 1) = false := by simpa using hx
    clear hx hcell
    go_enter Try.func79, Try.ntmps79
    go_wp2_with fail
    refine (hasNode_any _ N _ lo hi _ HN1.out (by simp; omega)).mono ?_
    rintro e w1 ⟨rfl, hbq⟩
    rw [hx']
    go_wp2_with fail
    go_ret
    exact ⟨ret_bool (by unfold NetD.port; rw [hx']; rfl), hb0.trans (hbq.mono (by simp))⟩

/-- slices.Clone -/
theorem clone_any (v : Value) (zs : List Int) (lo hi : Nat) (w : World) (h : IntS w lo hi v zs) (hn : zs.length ≤ 16777216) :
    Calls Try.prog 89 #[v] w fun e w' => ∃ r, e = .returned r ∧ OwnI w' w.heap.size 3 r zs ∧ Below w.heap.size w w' := by
  obtain ⟨A, c, rfl, hc1, hc2, hcell⟩ := h.form
  rcases Nat.eq_zero_or_pos zs.length with h0 | h0
  · obtain rfl : zs = [] := List.eq_nil_of_length_eq_zero h0
    cases A with
    | none =>
      refine (Try.slices_Clone_int_nil _ _ _).mono ?_
      rintro e w' ⟨rfl, rfl⟩
      exact ⟨_, rfl, OwnI.nil _ _ _, Below.refl _ _⟩
    | some a =>
      refine (Try.slices_Clone_int_zero _ _ _).mono ?_
      rintro e w' ⟨r, rfl, h1, _, h2⟩
      exact ⟨_, rfl, h1, h2⟩
  · obtain ⟨b, off, rfl, hb1, hb2, hcs⟩ := hcell h0
    refine (Try.slices_Clone_int b off zs.length c zs w (Nat.le_refl _) (by omega) (fun j hj => (hcs j hj).1)).mono ?_
    rintro e w' ⟨r, rfl, h1, _, h2⟩
    rw [List.take_length] at h1
    exact ⟨_, rfl, by simpa [OwnI, Own] using h1, h2⟩

open Go.Sort in
/-- slices.Sort -/
theorem sort_any (v : Value) (zs : List Int) (lo hi : Nat) (w : World) (h : IntS w lo hi v zs) (hhi : hi ≤ w.heap.size) (hn : zs.length ≤ 16777216) :
    Calls Try.prog 90 #[v] w fun e w' => e = .returned (.tuple #[]) ∧ IntS w' lo hi v (sortI zs) ∧ w.grownBy w' (rowOf zs.length v) := by
  obtain ⟨A, c, rfl, hc1, hc2, hcell⟩ := h.form
  rcases Nat.eq_zero_or_pos zs.length with h0 | h0
  · obtain rfl : zs = [] := List.eq_nil_of_length_eq_zero h0
    refine (Try.slices_Sort_int_none _ _ _).mono ?_
    rintro e w' ⟨rfl, rfl⟩
    exact ⟨rfl, by simpa [sortI] using h, World.grownBy.refl _ _⟩
  · obtain ⟨b, off, rfl, hb1, hb2, hcs⟩ := hcell h0
    have hH : Holds (Value.int .i64) w b off zs.toArray := fun j hj => by
      have hj' : j < zs.length := by simpa using hj
      have := hcs j hj'
      rw [nth_eq hj'] at this
      simpa [hj'] using this
    refine (Try.slices_Sort_int b off c zs w hH (by omega) (by omega)).mono ?_
    rintro e w' ⟨rfl, n, os, rfl⟩
    have hs : (zs.mergeSort fun x y => decide (x ≤ y)).toArray.size = zs.toArray.size := by simp
    have hH2 := holds_grow (Value.int .i64) _ os b off _ (by simp; omega) (holds_putRow (Value.int .i64) (Sort.ahead w n) b off zs.toArray (zs.mergeSort fun x y => decide (x ≤ y)).toArray hH hs)
    refine ⟨rfl, ?_, ?_⟩
    · refine ⟨_, c, by rw [sortI_length], by rw [sortI_length]; exact hc1, hc2, fun _ => ⟨b, off, rfl, hb1, hb2, fun j hj => ?_⟩⟩
      have hj1 : j < (sortI zs).length := by omega
      obtain ⟨q1, q2⟩ := hH2 j (by simpa [sortI] using hj1)
      refine ⟨?_, q2⟩
      show _ = some (Value.int .i64 (nth (sortI zs) j))
      rw [q1, nth_eq hj1]
      have hj2 : j < (zs.mergeSort fun x y => decide (x ≤ y)).length := hj1
      simp only [sortI]
      rw [getElem!_pos _ j (by simpa using hj2)]
      simp
    · rw [rowOf_some h0]
      refine ⟨rfl, rfl, rfl, by simp, fun k hk hne => ?_⟩
      rw [heap_grow_old _ _ (by simpa using hk)]
      have hkb : b ≠ k := fun e => hne (by rw [e])
      simp [putRow, mapBlock, Array.getElem?_modify, hkb]

set_option maxHeartbeats 400000 in
theorem idsOk_any (v : Value) (zs : List Int) (n : Int) (lo hi : Nat) (w : World) (h : IntS w lo hi v zs) (hhi : hi ≤ w.heap.size) (hn : zs.length ≤ 16777216) :
    Calls Try.prog 77 #[v, .int .i64 n] w fun e w' => e = .returned (.bool (idsGood zs n)) ∧ Below w.heap.size w w' := by
  have HH := Lib.hid h
  obtain ⟨A, c, rfl⟩ := h.shape
  clear h
  by_cases h0 : zs.length = 0
  · have h0' : ((zs.length : Int) == 0) = true := by simp [h0]
    have H0 := Lib.hid h0
    clear h0
    go_enter Try.func77, Try.ntmps77
    go_wp2
    go_ret
    exact ⟨ret_bool (by rw [← idsOk_eq]; unfold idsOkB; rw [decide_eq_true H0.out]; rfl), Below.refl _ _⟩
  · have h0' : ((zs.length : Int) == 0) = false := by rw [beq_eq_false_iff_ne]; omega
    have H0 := Lib.hid h0
    clear h0
    go_enter Try.func77, Try.ntmps77
    go_wp2_with fail
    refine (clone_any _ zs lo hi _ HH.out hn).mono ?_
    rintro e w1 ⟨r, rfl, hr, hb1⟩
    have hr1 := hr.ints
    have R1 := Lib.hid hr1
    obtain ⟨B, d, rfl⟩ := hr1.shape
    clear hr1 hr
    go_wp2_with fail
    refine (sort_any _ zs _ _ _ R1.out (Nat.le_refl _) hn).mono ?_
    rintro e w2 ⟨rfl, hr2, hg⟩
    have hbw : Below w.heap.size w w2 := hb1.grown hg hb1.size (fun k hk => by rcases Sl.row R1.out with e | ⟨b, e, h1, _⟩ <;> rw [e] at hk <;> injection hk; omega)
    have R2 := Lib.hid hr2
    clear hr2 hg
    by_cases hl : (zs.length : Int) = n
    · have hl' : ((zs.length : Int) == n) = true := by simpa using hl
      have HL := Lib.hid hl
      clear hl
      go_wp2_with (go_at_call 91; refine (increasing_any _ (sortI zs) _ _ _ _ _ R2.out).mono ?_; rintro e w' ⟨rfl, rfl⟩)
      go_ret
      exact ⟨ret_bool (by rw [← idsOk_eq]; unfold idsOkB; rw [decide_eq_false H0.out, decide_eq_true HL.out]; rfl), hbw⟩
    · have hl' : ((zs.length : Int) == n) = false := by simpa using hl
      have HL := Lib.hid hl
      clear hl
      go_wp2_with fail
      go_ret
      exact ⟨ret_bool (by rw [← idsOk_eq]; unfold idsOkB; rw [decide_eq_false H0.out, decide_eq_false HL.out]; rfl), hbw⟩

def insGood (zs : List Int) (n : Int) : Bool := decide ((zs.length : Int) = n) && zs.all fun x => inB x 0 9
set_option maxHeartbeats 400000 in
theorem inputsOk_any (v : Value) (zs : List Int) (n : Int) (lo hi : Nat) (w : World) (h : IntS w lo hi v zs) (hhi : hi ≤ w.heap.size) :
    Calls Try.prog 78 #[v, .int .i64 n] w fun e w' => e = .returned (.bool (insGood zs n)) ∧ Below w.heap.size w w' := by
  have HH := Lib.hid h
  obtain ⟨A, c, rfl⟩ := h.shape
  clear h
  by_cases hl : (zs.length : Int) = n
  · have hl' : ((zs.length : Int) == n) = true := by simpa using hl
    have HL := Lib.hid hl
    clear hl
    go_enter Try.func78, Try.ntmps78
    go_wp2_with (go_at_call 81; refine (allWithin_any _ zs _ _ lo hi _ HH.out hhi).mono ?_; rintro e w' ⟨rfl, hb⟩)
    go_ret
    exact ⟨ret_bool (by unfold insGood; rw [decide_eq_true HL.out]; rfl), hb⟩
  · have hl' : ((zs.length : Int) == n) = false := by simpa using hl
    have HL := Lib.hid hl
    clear hl
    go_enter Try.func78, Try.ntmps78
    go_wp2_with fail
    go_ret
    exact ⟨ret_bool (by unfold insGood; rw [decide_eq_false HL.out]; rfl), Below.refl _ _⟩

def NetD.endOk (N : NetD) (v i : Nat) : Bool := N.port (nthE (nthL N.ends v) i).1 (nthE (nthL N.ends v) i).2 && decide (nthE (nthL N.ends (nthE (nthL N.ends v) i).1.toNat) (nthE (nthL N.ends v) i).2.toNat = ((v : Int), (i : Int)))
def NetD.rowOk (N : NetD) (v : Nat) : Bool := decide ((nthL N.ends v).length ≤ 6) && (List.range (nthL N.ends v).length).all (N.endOk v)
def NetD.headOk (N : NetD) : Bool := inB N.ends.length 1 40 && (idsGood N.ids N.ends.length && insGood N.inputs N.ends.length)
def NetD.good (N : NetD) : Bool := N.headOk && (List.range N.ends.length).all N.rowOk
theorem good_head {N : NetD} (h : N.headOk = false) : N.good = false := by unfold NetD.good; rw [h]; rfl
theorem good_row {N : NetD} {v : Nat} (hv : v < N.ends.length) (h : N.rowOk v = false) : N.good = false := by
  have : (List.range N.ends.length).all N.rowOk = false := by
    rw [Bool.eq_false_iff]; intro ha; rw [List.all_eq_true] at ha
    have := ha v (List.mem_range.2 hv); rw [h] at this; cases this
  unfold NetD.good; rw [this, Bool.and_false]
theorem good_yes {N : NetD} (h : N.headOk = true) (hr : ∀ v, v < N.ends.length → N.rowOk v = true) : N.good = true := by
  have : (List.range N.ends.length).all N.rowOk = true := by rw [List.all_eq_true]; intro v hv; exact hr v (List.mem_range.1 hv)
  unfold NetD.good; rw [this, h]; rfl
theorem row_wide {N : NetD} {v : Nat} (h : 6 < (nthL N.ends v).length) : N.rowOk v = false := by unfold NetD.rowOk; rw [decide_eq_false (by omega)]; rfl
theorem row_end {N : NetD} {v i : Nat} (hi : i < (nthL N.ends v).length) (h : N.endOk v i = false) : N.rowOk v = false := by
  have : (List.range (nthL N.ends v).length).all (N.endOk v) = false := by
    rw [Bool.eq_false_iff]; intro ha; rw [List.all_eq_true] at ha
    have := ha i (List.mem_range.2 hi); rw [h] at this; cases this
  unfold NetD.rowOk; rw [this, Bool.and_false]
theorem row_yes {N : NetD} {v : Nat} (h : (nthL N.ends v).length ≤ 6) (hr : ∀ i, i < (nthL N.ends v).length → N.endOk v i = true) : N.rowOk v = true := by
  have : (List.range (nthL N.ends v).length).all (N.endOk v) = true := by rw [List.all_eq_true]; intro i hi; exact hr i (List.mem_range.1 hi)
  unfold NetD.rowOk; rw [this, decide_eq_true h]; rfl

set_option maxHeartbeats 4000000 in
set_option maxRecDepth 100000 in
theorem neGood_any (v : Value) (N : NetD) (lo hi : Nat) (w : World) (h : Net w lo hi v N) (hhi : hi ≤ w.heap.size) (hsz : N.sz ≤ 1048576) :
    Calls Try.prog 48 #[v] w fun e w' => e = .returned (.bool N.good) ∧ Below w.heap.size w w' := by
  unfold NetD.sz at hsz
  obtain ⟨ve, vi, vn, rfl, he, hi1, hn1⟩ := h
  obtain ⟨A, c, rfl, hc1, hc2, hcell⟩ := he.form
  unfold maxLen at hc2
  have hle : N.ends.length ≤ 1048576 := by unfold szSS at hsz; omega
  have hb0 := fun o => below_a1 w o
  obtain ⟨A2, c2, rfl⟩ := hi1.shape
  obtain ⟨A3, c3, rfl⟩ := hn1.shape
  have b0 := Box3.new w 34 (.slice A N.ends.length c) (.slice A2 N.ids.length c2) (.slice A3 N.inputs.length c3)
  have HI := Lib.hid (hi1.below (hb0 (.cells #[.slice A N.ends.length c, .slice A2 N.ids.length c2, .slice A3 N.inputs.length c3] 34)) hhi)
  have HN := Lib.hid (hn1.below (hb0 (.cells #[.slice A N.ends.length c, .slice A2 N.ids.length c2, .slice A3 N.inputs.length c3] 34)) hhi)
  have HB0 := Lib.hid (hb0 (.cells #[.slice A N.ends.length c, .slice A2 N.ids.length c2, .slice A3 N.inputs.length c3] 34))
  clear he hi1 hn1 hb0
  by_cases g1 : inB N.ends.length 1 40 = true
  case neg =>
    have g1' : inB N.ends.length 1 40 = false := by simpa using g1
    clear g1 hcell
    go_enter Try.func48, Try.ntmps48
    go_wp2_with (go_at_call 70; refine (l1In_any _ _ _ _).mono ?_; rintro e w' ⟨rfl, rfl⟩)
    go_ret
    exact ⟨ret_bool (good_head (by unfold NetD.headOk; rw [g1']; rfl)).symm, HB0.out⟩
  by_cases g2 : idsGood N.ids N.ends.length = true
  case neg =>
    have g2' : idsGood N.ids N.ends.length = false := by simpa using g2
    clear g2 hcell
    go_enter Try.func48, Try.ntmps48
    go_wp2_with (first
      | (go_at_call 70; refine (l1In_any _ _ _ _).mono ?_; rintro e w' ⟨rfl, rfl⟩)
      | (go_at_call 71; refine (neIds_any _ N.ids _ lo hi _ HI.out).mono ?_; rintro e w' ⟨rfl, rfl⟩))
    go_ret
    exact ⟨ret_bool (good_head (by unfold NetD.headOk; rw [g2']; simp)).symm, HB0.out⟩
  by_cases g3 : N.inputs.length = N.ends.length
  case neg =>
    have g3' : ((N.inputs.length : Int) != (N.ends.length : Int)) = true := by simp; omega
    clear hcell
    go_enter Try.func48, Try.ntmps48
    go_wp2_with (first
      | (go_at_call 70; refine (l1In_any _ _ _ _).mono ?_; rintro e w' ⟨rfl, rfl⟩)
      | (go_at_call 71; refine (neIds_any _ N.ids _ lo hi _ HI.out).mono ?_; rintro e w' ⟨rfl, rfl⟩))
    go_ret
    exact ⟨ret_bool (good_head (by unfold NetD.headOk insGood; rw [decide_eq_false (by omega)]; simp)).symm, HB0.out⟩
  have g3' : ((N.inputs.length : Int) != (N.ends.length : Int)) = false := by simp [g3]
  have G3 := Lib.hid g3
  clear g3
  by_cases g4 : (N.inputs.all fun x => inB x 0 9) = true
  case neg =>
    have g4' : (N.inputs.all fun x => inB x 0 9) = false := by simpa using g4
    have G4 := Lib.hid g4'
    clear hcell g4 g4'
    go_enter Try.func48, Try.ntmps48
    go_wp2_with (first
      | (go_at_call 70; refine (l1In_any _ _ _ _).mono ?_; rintro e w' ⟨rfl, rfl⟩)
      | (go_at_call 71; refine (neIds_any _ N.ids _ lo hi _ HI.out).mono ?_; rintro e w' ⟨rfl, rfl⟩)
      | (go_at_call 53; refine (l1All_any _ N.inputs _ _ lo hi _ HN.out).mono ?_; rintro e w' ⟨rfl, rfl⟩; rw [G4.out]))
    go_ret
    exact ⟨ret_bool (good_head (by unfold NetD.headOk insGood; rw [G4.out]; simp)).symm, HB0.out⟩
  have G4 := Lib.hid g4
  have HD := Lib.hid (show N.headOk = true by unfold NetD.headOk insGood; rw [g1, g2, g4, decide_eq_true (by rw [G3.out])]; rfl)
  clear g4
  obtain ⟨n1, n40⟩ := inB_le g1
  obtain ⟨b, off, rfl, hb1, hb2, hcs⟩ := hcell (by omega)
  have HCS := Lib.hid hcs
  clear hcell hcs
  go_enter Try.func48, Try.ntmps48
  go_wp2_with (first
    | (go_at_call 70; refine (l1In_any _ _ _ _).mono ?_; rintro e w' ⟨rfl, rfl⟩)
    | (go_at_call 71; refine (neIds_any _ N.ids _ lo hi _ HI.out).mono ?_; rintro e w' ⟨rfl, rfl⟩)
    | (go_at_call 53; refine (l1All_any _ N.inputs _ _ lo hi _ HN.out).mono ?_; rintro e w' ⟨rfl, rfl⟩; rw [G4.out]))
  go_loopw [39] (fun i wr => ∃ k : Nat, k ≤ N.ends.length ∧ i = .int .i64 k ∧ Hid (∀ j, j < k → N.rowOk j = true) ∧ Box3 wr w.heap.size 34 (.slice (some ⟨b, off, none⟩) N.ends.length c) (.slice A2 N.ids.length c2) (.slice A3 N.inputs.length c3) ∧ Below w.heap.size w wr) (fun i _ => N.ends.length - (intOf i).toNat)
  case atStart => exact ⟨0, Nat.zero_le _, rfl, Lib.hid fun j hj => absurd hj (by omega), b0, HB0.out⟩
  case round =>
    clear b0
    obtain ⟨k, hk, rfl, HU, hbx, hb⟩ := hrel
    have hs0 := hb.size
    by_cases hlt : k < N.ends.length
    case neg =>
      obtain rfl : k = N.ends.length := by omega
      go_wp2
      go_ret
      exact ⟨ret_bool (good_yes HD.out HU.out).symm, hb⟩
    obtain ⟨u, hu, hR⟩ := HCS.out k hlt
    obtain ⟨A4, c4, rfl, hd1, hd2, hcell4⟩ := hR.form
    unfold maxLen at hd2
    have hck := (hb.cell (p := ⟨b, off + k, none⟩) (by show b < _; omega)).trans hu
    have HC4 := Lib.hid hcell4
    clear hu hcell4 hR
    by_cases hl6 : (nthL N.ends k).length ≤ 6
    case neg =>
      have hl6' : (6 : Int) < (nthL N.ends k).length := by omega
      go_wp2
      go_ret
      exact ⟨ret_bool (good_row hlt (row_wide (by omega))).symm, hb⟩
    obtain ⟨wo, rfl⟩ : ∃ wo : World, wo = wr := ⟨_, rfl⟩
    go_wp2
    go_loopw [49] (fun i wi => ∃ m : Nat, m ≤ (nthL N.ends k).length ∧ i = .int .i64 m ∧ Hid (∀ j, j < m → N.endOk k j = true) ∧ Box3 wi w.heap.size 34 (.slice (some ⟨b, off, none⟩) N.ends.length c) (.slice A2 N.ids.length c2) (.slice A3 N.inputs.length c3) ∧ Below w.heap.size w wi) (fun i _ => (nthL N.ends k).length - (intOf i).toNat)
    case atStart => exact ⟨0, Nat.zero_le _, rfl, Lib.hid fun j hj => absurd hj (by omega), hbx, hb⟩
    case round =>
      clear hbx hb hck
      obtain ⟨m, hm, rfl, HV, hbx, hb⟩ := hrel
      have hs1 := hb.size
      by_cases hml : m < (nthL N.ends k).length
      case neg =>
        obtain rfl : m = (nthL N.ends k).length := by omega
        go_wp2
        go_roundw
        case rel =>
          refine ⟨k + 1, by omega, by go_num, Lib.hid fun j hj => ?_, hbx, hb⟩
          by_cases e : j = k
          · subst e; exact row_yes hl6 HV.out
          · exact HU.out j (by omega)
        case measure => simp [intOf]; omega
      obtain ⟨b4, off4, rfl, hb5, hb6, hcs4⟩ := HC4.out (by omega)
      obtain ⟨x1, x2⟩ := hcs4 m hml
      have e1 := (hb.cell (p := ⟨b4, off4 + m * 2, none⟩) (by show b4 < _; omega)).trans x1
      have e2 := (hb.cell (p := ⟨b4, off4 + m * 2 + 1, none⟩) (by show b4 < _; omega)).trans x2
      clear hcs4 x1 x2
      obtain ⟨p1, p2, HP⟩ : ∃ p1 p2, Hid (nthE (nthL N.ends k) m = (p1, p2)) := ⟨_, _, Lib.hid rfl⟩
      rw [HP.out] at e1 e2
      dsimp only at e1 e2
      have q0 : (wr.alloc (.cells #[.int .i64 p1, .int .i64 p2] 60)).cell? ⟨w.heap.size, 0, none⟩ = some (.slice (some ⟨b, off, none⟩) N.ends.length c) := (hbx.alloc _).cells.1
      have hbW : Below w.heap.size w (wr.alloc (.cells #[.int .i64 p1, .int .i64 p2] 60)) := hb.alloc hs1 _
      have sub1 : IntKind.i64.wrap ((N.ends.length : Int) - 1) = (N.ends.length : Int) - 1 := IntWalk.i64_in _ (by omega)
      by_cases k1 : inB p1 0 ((N.ends.length : Int) - 1) = true
      case neg =>
        have k1' : inB p1 0 ((N.ends.length : Int) - 1) = false := by simpa using k1
        clear k1
        go_wp2
        go_quiet ((go_at_call 70; exact quiet_left (l1In_any _ _ _ _)))
        go_wp2
        go_ret
        exact ⟨ret_bool (good_row hlt (row_end hml (by unfold NetD.endOk; rw [HP.out]; dsimp only; unfold NetD.port; rw [k1']; rfl))).symm, below_drewN hbW _⟩
      obtain ⟨y1, y2⟩ := inB_le k1
      obtain ⟨t, rfl⟩ : ∃ t : Nat, p1 = t := ⟨p1.toNat, by omega⟩
      have htl : t < N.ends.length := by omega
      obtain ⟨u5, hu5, hR5⟩ := HCS.out t htl
      obtain ⟨A5, c5, rfl, hf1, hf2, hcell5⟩ := hR5.form
      unfold maxLen at hf2
      have q5 := (hbW.cell (p := ⟨b, off + t, none⟩) (by show b < _; omega)).trans hu5
      have sub2 : IntKind.i64.wrap (((nthL N.ends t).length : Int) - 1) = ((nthL N.ends t).length : Int) - 1 := IntWalk.i64_in _ (by omega)
      have hti : (t : Int) < N.ends.length := by omega
      clear hu5 hR5
      by_cases k2 : inB p2 0 (((nthL N.ends t).length : Int) - 1) = true
      case neg =>
        have k2' : inB p2 0 (((nthL N.ends t).length : Int) - 1) = false := by simpa using k2
        clear k2 hcell5
        go_wp2
        go_quiet ((go_at_call 70; exact quiet_left (l1In_any _ _ _ _)))
        go_wp2
        go_ret
        exact ⟨ret_bool (good_row hlt (row_end hml (by unfold NetD.endOk; rw [HP.out]; dsimp only; unfold NetD.port; rw [Int.toNat_natCast, k2']; simp))).symm, below_drewN hbW _⟩
      obtain ⟨z1, z2⟩ := inB_le k2
      obtain ⟨r, rfl⟩ : ∃ r : Nat, p2 = r := ⟨p2.toNat, by omega⟩
      have hrl : r < (nthL N.ends t).length := by omega
      have hri : (r : Int) < (nthL N.ends t).length := by omega
      obtain ⟨b6, off6, rfl, hb7, hb8, hcs6⟩ := hcell5 (by omega)
      obtain ⟨f1, f2⟩ := hcs6 r hrl
      have d1 := (hbW.cell (p := ⟨b6, off6 + r * 2, none⟩) (by show b6 < _; omega)).trans f1
      have d2 := (hbW.cell (p := ⟨b6, off6 + r * 2 + 1, none⟩) (by show b6 < _; omega)).trans f2
      obtain ⟨s1, s2, HQ⟩ : ∃ s1 s2, Hid (nthE (nthL N.ends t) r = (s1, s2)) := ⟨_, _, Lib.hid rfl⟩
      rw [HQ.out] at d1 d2
      dsimp only at d1 d2
      clear f1 f2 hcs6 hcell5
      by_cases k3 : ((s1, s2) : Int × Int) = ((k : Int), (m : Int))
      case neg =>
        have k3' : ∀ w, (binOp .neq 60 (.agg #[.int .i64 s1, .int .i64 s2]) (.agg #[.int .i64 k, .int .i64 m])).run Try.prog w = .ok (.bool true) w := fun w => by
          rw [neq_end, show (!(s1 == (k : Int) && s2 == (m : Int))) = true by
            rw [Bool.not_eq_true', Bool.and_eq_false_iff]; simp only [Prod.mk.injEq] at k3; by_cases q : s1 = (k : Int)
            · right; simpa using fun e => k3 ⟨q, e⟩
            · left; simpa using q]
        have K3 := Lib.hid k3
        clear k3
        go_wp2
        go_quiet ((go_at_call 70; exact quiet_left (l1In_any _ _ _ _)))
        go_wp2
        go_ret
        exact ⟨ret_bool (good_row hlt (row_end hml (by unfold NetD.endOk; rw [HP.out]; dsimp only; rw [Int.toNat_natCast, Int.toNat_natCast, HQ.out, decide_eq_false K3.out, Bool.and_false]))).symm, below_drewN hbW _⟩
      have k3' : ∀ w, (binOp .neq 60 (.agg #[.int .i64 s1, .int .i64 s2]) (.agg #[.int .i64 k, .int .i64 m])).run Try.prog w = .ok (.bool false) w := fun w => by
        simp only [Prod.mk.injEq] at k3
        rw [neq_end, k3.1, k3.2]; simp
      have K3 := Lib.hid k3
      clear k3
      go_wp2
      go_quiet ((go_at_call 70; exact quiet_left (l1In_any _ _ _ _)))
      go_wp2
      go_roundw
      case rel =>
        refine ⟨m + 1, by omega, by go_num, Lib.hid fun j hj => ?_, hbx.alloc _, below_drewN hbW _⟩
        by_cases e : j = m
        · subst e
          unfold NetD.endOk
          rw [HP.out]
          dsimp only
          rw [Int.toNat_natCast, Int.toNat_natCast, HQ.out, decide_eq_true K3.out, Bool.and_true]
          unfold NetD.port
          rw [k1, Int.toNat_natCast, k2]
          rfl
        · exact HV.out j (by omega)
      case measure => simp [intOf]; omega

end Go.Proofs.Ytcmmklcampmkjaa

/- Plain: parents by ports, the root, the hops to it. -/
namespace Go.Proofs.Ytcmmklcampmkjaa
set_option linter.unusedVariables false

/-- the outer row of a network's ends, opened -/
def NetO (w : World) (lo hi b off : Nat) (N : NetD) : Prop :=
  ∀ t, t < N.ends.length → ∃ A c, w.cell? ⟨b, off + t, none⟩ = some (.slice A (nthL N.ends t).length c) ∧ (nthL N.ends t).length ≤ c ∧ c ≤ 9223372036854775807 ∧
    (0 < (nthL N.ends t).length → ∃ b2 off2, A = some ⟨b2, off2, none⟩ ∧ lo ≤ b2 ∧ b2 < hi ∧ ∀ r, r < (nthL N.ends t).length → w.cell? ⟨b2, off2 + r * 2, none⟩ = some (.int .i64 (nthE (nthL N.ends t) r).1) ∧ w.cell? ⟨b2, off2 + r * 2 + 1, none⟩ = some (.int .i64 (nthE (nthL N.ends t) r).2))
open Go.RowKit in
theorem NetO.below {w w' : World} {lo hi b off B : Nat} {N : NetD} (h : NetO w lo hi b off N) (hb : Below B w w') (h1 : b < B) (h2 : hi ≤ B) : NetO w' lo hi b off N := by
  intro t ht
  obtain ⟨A, c, a1, a2, a3, a4⟩ := h t ht
  refine ⟨A, c, (hb.cell (p := ⟨b, off + t, none⟩) h1).trans a1, a2, a3, fun hp => ?_⟩
  obtain ⟨b2, off2, e, a5, a6, a7⟩ := a4 hp
  exact ⟨b2, off2, e, a5, a6, fun r hr => ⟨(hb.cell (p := ⟨b2, off2 + r * 2, none⟩) (by show b2 < B; omega)).trans (a7 r hr).1, (hb.cell (p := ⟨b2, off2 + r * 2 + 1, none⟩) (by show b2 < B; omega)).trans (a7 r hr).2⟩⟩
theorem NetO.port {w : World} {lo hi b off : Nat} {N : NetD} (h : NetO w lo hi b off N) {t r : Nat} (ht : t < N.ends.length) (hr : r < (nthL N.ends t).length) :
    ∃ b2 off2 c, w.cell? ⟨b, off + t, none⟩ = some (.slice (some ⟨b2, off2, none⟩) (nthL N.ends t).length c) ∧ (nthL N.ends t).length ≤ c ∧ c ≤ 9223372036854775807 ∧ lo ≤ b2 ∧ b2 < hi ∧
      w.cell? ⟨b2, off2 + r * 2, none⟩ = some (.int .i64 (nthE (nthL N.ends t) r).1) ∧ w.cell? ⟨b2, off2 + r * 2 + 1, none⟩ = some (.int .i64 (nthE (nthL N.ends t) r).2) := by
  obtain ⟨A, c, a1, a2, a3, a4⟩ := h t ht
  obtain ⟨b2, off2, rfl, a5, a6, a7⟩ := a4 (by omega)
  exact ⟨b2, off2, c, a1, a2, a3, a5, a6, (a7 r hr).1, (a7 r hr).2⟩
/-- a network in memory, taken apart -/
theorem Net.parts {w : World} {lo hi : Nat} {v : Value} {N : NetD} (h : Net w lo hi v N) : ∃ A c A2 c2 A3 c3, v = .agg #[.slice A N.ends.length c, .slice A2 N.ids.length c2, .slice A3 N.inputs.length c3] ∧ N.ends.length ≤ c ∧ c ≤ 9223372036854775807 ∧
    IntS w lo hi (.slice A2 N.ids.length c2) N.ids ∧ IntS w lo hi (.slice A3 N.inputs.length c3) N.inputs ∧ (0 < N.ends.length → ∃ b off, A = some ⟨b, off, none⟩ ∧ lo ≤ b ∧ b < hi ∧ NetO w lo hi b off N) := by
  obtain ⟨ve, vi, vn, rfl, he, hi1, hn1⟩ := h
  obtain ⟨A, c, rfl, hc1, hc2, hcell⟩ := he.form
  obtain ⟨A2, c2, rfl⟩ := hi1.shape
  obtain ⟨A3, c3, rfl⟩ := hn1.shape
  refine ⟨A, c, A2, c2, A3, c3, rfl, hc1, hc2, hi1, hn1, fun hp => ?_⟩
  obtain ⟨b, off, e, h1, h2, h3⟩ := hcell hp
  refine ⟨b, off, e, h1, h2, fun t ht => ?_⟩
  obtain ⟨u, hu, hR⟩ := h3 t ht
  obtain ⟨A4, c4, rfl, hd1, hd2, hcell4⟩ := hR.form
  exact ⟨A4, c4, hu, hd1, hd2, hcell4⟩

/-- what a good network gives -/
theorem good_n {N : NetD} (h : N.good = true) : 1 ≤ N.ends.length ∧ N.ends.length ≤ 40 := by
  unfold NetD.good NetD.headOk at h
  simp only [Bool.and_eq_true] at h
  have := inB_le h.1.1
  omega
theorem good_row_ok {N : NetD} (h : N.good = true) {v : Nat} (hv : v < N.ends.length) : N.rowOk v = true := by
  unfold NetD.good at h
  rw [Bool.and_eq_true, List.all_eq_true] at h
  exact h.2 v (List.mem_range.2 hv)
theorem good_deg {N : NetD} (h : N.good = true) {v : Nat} (hv : v < N.ends.length) : (nthL N.ends v).length ≤ 6 := by
  have := good_row_ok h hv
  unfold NetD.rowOk at this
  rw [Bool.and_eq_true] at this
  simpa using this.1
theorem good_end {N : NetD} (h : N.good = true) {v i : Nat} (hv : v < N.ends.length) (hi : i < (nthL N.ends v).length) :
    ∃ t r : Nat, nthE (nthL N.ends v) i = ((t : Int), (r : Int)) ∧ t < N.ends.length ∧ r < (nthL N.ends t).length ∧ nthE (nthL N.ends t) r = ((v : Int), (i : Int)) := by
  have := good_row_ok h hv
  unfold NetD.rowOk at this
  rw [Bool.and_eq_true, List.all_eq_true] at this
  have := this.2 i (List.mem_range.2 hi)
  unfold NetD.endOk NetD.port at this
  simp only [Bool.and_eq_true, decide_eq_true_eq] at this
  obtain ⟨⟨a1, a2⟩, a3⟩ := this
  have b1 := inB_le a1
  have b2 := inB_le a2
  refine ⟨(nthE (nthL N.ends v) i).1.toNat, (nthE (nthL N.ends v) i).2.toNat, ?_, by omega, by omega, a3⟩
  apply Prod.ext
  · show _ = ((Int.toNat _ : Nat) : Int); omega
  · show _ = ((Int.toNat _ : Nat) : Int); omega

def rootOf (ps : List Int) : Int := fidx (fun x => x == -1) ps
/-- node v spoils the parents -/
def badPar (N : NetD) (ps : List Int) (v : Nat) : Bool := (nth ps v == -1 && !decide ((v : Int) = rootOf ps)) || (nth ps v != -1 && !inB (nth ps v) 0 (((nthL N.ends v).length : Int) - 1))
/-- the node behind the parent's port -/
def up (N : NetD) (ps : List Int) (v : Nat) : Nat := (nthE (nthL N.ends v) (nth ps v).toNat).1.toNat
theorem rootOf_none {ps : List Int} (h : ∀ j, j < ps.length → nth ps j ≠ -1) : rootOf ps = -1 := fidx_none fun j hj => by simpa using h j hj
/-- what the reference knows of the root behind k parents -/
def RInv (N : NetD) (ps : List Int) (k : Nat) (ρ : Int) : Prop := (∀ j, j < k → badPar N ps j = false) ∧ ((ρ = -1 ∧ ∀ j, j < k → nth ps j ≠ -1) ∨ (ρ = rootOf ps ∧ 0 ≤ ρ ∧ ρ < k))
theorem RInv.zero (N : NetD) (ps : List Int) : RInv N ps 0 (-1) := ⟨fun j hj => absurd hj (by omega), .inl ⟨rfl, fun j hj => absurd hj (by omega)⟩⟩
theorem not_bad {N : NetD} {ps : List Int} {k : Nat} (hm : nth ps k ≠ -1) (hi : inB (nth ps k) 0 (((nthL N.ends k).length : Int) - 1) = true) : badPar N ps k = false := by
  unfold badPar; rw [hi]; simp [hm]
theorem RInv.skip {N : NetD} {ps : List Int} {k : Nat} {ρ : Int} (h : RInv N ps k ρ) (hm : nth ps k ≠ -1) (hi : inB (nth ps k) 0 (((nthL N.ends k).length : Int) - 1) = true) : RInv N ps (k + 1) ρ := by
  obtain ⟨h1, h2⟩ := h
  refine ⟨fun j hj => ?_, ?_⟩
  · by_cases e : j = k
    · subst e; exact not_bad hm hi
    · exact h1 j (by omega)
  · rcases h2 with ⟨e, h3⟩ | ⟨e, e1, e2⟩
    · refine .inl ⟨e, fun j hj => ?_⟩
      by_cases e : j = k
      · subst e; exact hm
      · exact h3 j (by omega)
    · exact .inr ⟨e, e1, by omega⟩
theorem RInv.none {N : NetD} {ps : List Int} {ρ : Int} (h : RInv N ps ps.length ρ) (hρ : ρ < 0) : rootOf ps < 0 := by
  rcases h.2 with ⟨e, h3⟩ | ⟨e, e1, e2⟩
  · rw [rootOf_none h3]; omega
  · omega
theorem RInv.some {N : NetD} {ps : List Int} {ρ : Int} (h : RInv N ps ps.length ρ) (hρ : ¬ ρ < 0) : ρ = rootOf ps ∧ ρ < ps.length := by
  rcases h.2 with ⟨e, h3⟩ | ⟨e, e1, e2⟩
  · omega
  · exact ⟨e, e2⟩

end Go.Proofs.Ytcmmklcampmkjaa

/- Plain: distances by a walk over the nodes in the order in which they are found. -/
namespace Go.Proofs.Ytcmmklcampmkjaa
set_option linter.unusedVariables false

/-- the nodes at the other sides of a node's ports -/
def nbs (N : NetD) (u : Nat) : List Int := (nthL N.ends u).map Prod.fst
theorem nbs_length (N : NetD) (u : Nat) : (nbs N u).length = (nthL N.ends u).length := by simp [nbs]
theorem nth_nbs (N : NetD) (u : Nat) {i : Nat} (h : i < (nthL N.ends u).length) : nth (nbs N u) i = (nthE (nthL N.ends u) i).1 := by
  rw [nth_eq (by rw [nbs_length]; exact h)]
  simp [nbs, nthE, h]
/-- all ends lead to nodes -/
def NetD.nodes (N : NetD) : Prop := ∀ v, v < N.ends.length → ∀ i, i < (nthL N.ends v).length → ∃ t : Nat, (nthE (nthL N.ends v) i).1 = t ∧ t < N.ends.length
theorem good_nodes {N : NetD} (h : N.good = true) : N.nodes := fun v hv i hi => by
  obtain ⟨t, r, e, h1, _⟩ := good_end h hv hi
  exact ⟨t, by rw [e], h1⟩

abbrev BSt := List Int × List Int
def see (d : Int) (st : BSt) (w : Int) : BSt := if nth st.1 w.toNat < 0 then (st.1.set w.toNat d, st.2 ++ [w]) else st
def seeAll (d : Int) (st : BSt) (ws : List Int) : BSt := ws.foldl (see d) st
theorem seeAll_succ (d : Int) (st : BSt) (ws : List Int) {k : Nat} (hk : k < ws.length) : seeAll d st (ws.take (k + 1)) = see d (seeAll d st (ws.take k)) (nth ws k) := by
  unfold seeAll
  rw [List.take_succ_eq_append_getElem hk, List.foldl_append, nth_eq hk]
  rfl
def bstep (N : NetD) (a : Nat) (st : BSt) : BSt := seeAll (nth st.1 (nth st.2 a).toNat + 1) st (nbs N (nth st.2 a).toNat)
def bfs (N : NetD) : Nat → Nat → BSt → BSt
  | 0, _, st => st
  | f + 1, a, st => if a < st.2.length then bfs N f (a + 1) (bstep N a st) else st
def bfs0 (N : NetD) (v : Nat) : BSt := ((List.replicate N.ends.length (-1)).set v 0, [(v : Int)])
def dist (N : NetD) (v : Nat) : List Int := (bfs N (N.ends.length + 1) 0 (bfs0 N v)).1

structure BInv (n : Nat) (st : BSt) : Prop where
  len : st.1.length = n
  count : st.2.length + st.1.countP (fun x => decide (x < 0)) = n
  node : ∀ i, i < st.2.length → ∃ t : Nat, nth st.2 i = t ∧ t < n ∧ 0 ≤ nth st.1 t ∧ nth st.1 t ≤ i
  low : ∀ j, j < n → -1 ≤ nth st.1 j ∧ nth st.1 j ≤ n
theorem BInv.le {n : Nat} {st : BSt} (h : BInv n st) : st.2.length ≤ n := by have := h.count; omega
theorem BInv.start {N : NetD} {v : Nat} (hv : v < N.ends.length) : BInv N.ends.length (bfs0 N v) := by
  have hl : (List.replicate N.ends.length (-1 : Int)).length = N.ends.length := by simp
  refine ⟨by simp [bfs0], ?_, fun i hi => ?_, fun j hj => ?_⟩
  · have hp : 0 < (List.replicate N.ends.length (-1 : Int)).countP (fun x => decide (x < 0)) := by rw [List.countP_replicate]; simp; omega
    show 1 + List.countP _ ((List.replicate N.ends.length (-1)).set v 0) = _
    rw [List.countP_set (by simpa using hv)]
    simp [List.countP_replicate]
    omega
  · obtain rfl : i = 0 := by simp [bfs0] at hi; exact hi
    refine ⟨v, rfl, hv, ?_⟩
    simp only [bfs0]
    rw [nth_set _ _ _ _ (by simpa using hv), if_pos rfl]
    simp
  · simp only [bfs0]
    rw [nth_set _ _ _ _ (by simpa using hv)]
    by_cases e : j = v
    · rw [if_pos e]; omega
    · rw [if_neg e, nth_replicate _ _ hj]; omega
theorem see_neg {d : Int} {st : BSt} {t : Nat} (h : nth st.1 t < 0) : see d st t = (st.1.set t d, st.2 ++ [(t : Int)]) := by unfold see; rw [Int.toNat_natCast, if_pos h]
theorem see_pos {d : Int} {st : BSt} {t : Nat} (h : ¬ nth st.1 t < 0) : see d st t = st := by unfold see; rw [Int.toNat_natCast, if_neg h]
theorem BInv.see {n : Nat} {st : BSt} (h : BInv n st) {t : Nat} (ht : t < n) {d : Int} (h0 : 0 ≤ d) (hd : d ≤ st.2.length) : BInv n (see d st t) := by
  by_cases hn : nth st.1 t < 0
  · rw [see_neg hn]
    have htl : t < st.1.length := by rw [h.len]; exact ht
    have hc : (st.1.set t d).countP (fun x => decide (x < 0)) = st.1.countP (fun x => decide (x < 0)) - 1 := by
      rw [List.countP_set htl]
      have : decide (st.1[t] < 0) = true := by rw [← nth_eq htl]; simpa using hn
      rw [this]
      simp
      omega
    have hp : 0 < st.1.countP (fun x => decide (x < 0)) := by
      rw [List.countP_pos_iff]
      exact ⟨_, nth_mem htl, by simpa using hn⟩
    have hc2 := h.count
    refine ⟨by simp [h.len], ?_, fun i hi => ?_, fun j hj => ?_⟩
    · simp only [List.length_append, List.length_singleton]; omega
    · simp only [List.length_append, List.length_singleton] at hi
      by_cases e : i < st.2.length
      · obtain ⟨u, e1, e2, e3, e4⟩ := h.node i e
        have hut : u ≠ t := by rintro rfl; omega
        exact ⟨u, by rw [nth_append_left e]; exact e1, e2, by dsimp only; rw [nth_set _ _ _ _ htl, if_neg hut]; exact e3, by dsimp only; rw [nth_set _ _ _ _ htl, if_neg hut]; exact e4⟩
      · obtain rfl : i = st.2.length := by omega
        exact ⟨t, nth_append_at _ _, ht, by dsimp only; rw [nth_set _ _ _ _ htl, if_pos rfl]; exact h0, by dsimp only; rw [nth_set _ _ _ _ htl, if_pos rfl]; exact hd⟩
    · dsimp only
      rw [nth_set _ _ _ _ htl]
      by_cases e : j = t
      · rw [if_pos e]; omega
      · rw [if_neg e]; exact h.low j hj
  · rw [see_pos hn]; exact h
/-- what one more node leaves: what was found stays, and so does its distance -/
structure Kept (st st' : BSt) : Prop where
  len : st.2.length ≤ st'.2.length
  walk : ∀ i, i < st.2.length → nth st'.2 i = nth st.2 i
  out : ∀ j, 0 ≤ nth st.1 j → nth st'.1 j = nth st.1 j
theorem Kept.refl (st : BSt) : Kept st st := ⟨Nat.le_refl _, fun _ _ => rfl, fun _ _ => rfl⟩
theorem Kept.see {st st' : BSt} (h : Kept st st') (d : Int) (t : Nat) : Kept st (see d st' t) := by
  by_cases hn : nth st'.1 t < 0
  · rw [see_neg hn]
    refine ⟨by simp; have := h.len; omega, fun i hi => by dsimp only; rw [nth_append_left (by have := h.len; omega)]; exact h.walk i hi, fun j hj => ?_⟩
    dsimp only
    have hjt : j ≠ t := by rintro rfl; rw [h.out j hj] at hn; omega
    by_cases hl : t < st'.1.length
    · rw [nth_set _ _ _ _ hl, if_neg hjt]; exact h.out j hj
    · rw [List.set_eq_of_length_le (by omega)]; exact h.out j hj
  · rw [see_pos hn]; exact h
theorem bfs_go (N : NetD) {f a : Nat} {st : BSt} (h : a < st.2.length) : bfs N (f + 1) a st = bfs N f (a + 1) (bstep N a st) := by rw [bfs, if_pos h]
theorem bfs_end (N : NetD) {f a : Nat} {st : BSt} (h : st.2.length ≤ a) : bfs N f a st = st := by
  cases f with
  | zero => rfl
  | succ f => rw [bfs, if_neg (by omega)]
/-- the states between: k ports of the node at place a have been looked at -/
structure BMid (N : NetD) (a : Nat) (st : BSt) (u : Nat) (d : Int) (k : Nat) (sk : BSt) : Prop where
  eq : sk = seeAll (d + 1) st ((nbs N u).take k)
  inv : BInv N.ends.length sk
  kept : Kept st sk
  here : nth sk.1 u = d
  at_ : nth sk.2 a = u
  d0 : 0 ≤ d
  dle : d ≤ a
  alt : a < sk.2.length
theorem BMid.start {N : NetD} {a : Nat} {st : BSt} {u : Nat} {d : Int} (h : BInv N.ends.length st) (ha : a < st.2.length) (hu : nth st.2 a = u) (hd : nth st.1 u = d) : BMid N a st u d 0 st := by
  obtain ⟨t, e1, e2, e3, e4⟩ := h.node a ha
  obtain rfl : t = u := by omega
  exact ⟨by simp [seeAll], h, Kept.refl _, hd, hu, by omega, by omega, ha⟩
theorem BMid.next {N : NetD} {a : Nat} {st : BSt} {u : Nat} {d : Int} {k : Nat} {sk : BSt} (h : BMid N a st u d k sk) (hk : k < (nthL N.ends u).length) {t : Nat} (ht : (nthE (nthL N.ends u) k).1 = t) (htl : t < N.ends.length) :
    BMid N a st u d (k + 1) (see (d + 1) sk t) := by
  obtain ⟨e1, e2, e3, e4, e5, e6, e7, e8⟩ := h
  have hkk := (Kept.refl sk).see (d + 1) t
  refine ⟨?_, e2.see htl (by omega) (by omega), e3.see _ _, ?_, ?_, e6, e7, Nat.lt_of_lt_of_le e8 hkk.len⟩
  · rw [seeAll_succ _ _ _ (by rw [nbs_length]; exact hk), ← e1, nth_nbs N u hk, ht]
  · rw [hkk.out _ (by omega)]; exact e4
  · rw [hkk.walk _ e8]; exact e5
theorem BMid.done {N : NetD} {a : Nat} {st : BSt} {u : Nat} {d : Int} {sk : BSt} (h : BMid N a st u d (nthL N.ends u).length sk) (hu : nth st.2 a = u) (hd : nth st.1 u = d) : sk = bstep N a st := by
  unfold bstep
  rw [hu, Int.toNat_natCast, hd, h.eq, List.take_of_length_le (by rw [nbs_length]; exact Nat.le_refl _)]
/-- the outer loop: the walk stands at place a -/
structure BTop (N : NetD) (v a : Nat) (st : BSt) : Prop where
  inv : BInv N.ends.length st
  le : a ≤ st.2.length
  eq : dist N v = (bfs N (N.ends.length + 1 - a) a st).1
theorem BTop.start {N : NetD} {v : Nat} (hv : v < N.ends.length) : BTop N v 0 (bfs0 N v) := ⟨BInv.start hv, Nat.zero_le _, rfl⟩
theorem BTop.next {N : NetD} {v a : Nat} {st sk : BSt} {u : Nat} {d : Int} (h : BTop N v a st) (ha : a < st.2.length) (hm : BMid N a st u d (nthL N.ends u).length sk) (hu : nth st.2 a = u) (hd : nth st.1 u = d) : BTop N v (a + 1) sk := by
  have := h.inv.le
  refine ⟨hm.inv, hm.alt, ?_⟩
  rw [h.eq, show N.ends.length + 1 - a = (N.ends.length + 1 - (a + 1)) + 1 by omega, bfs_go N ha, hm.done hu hd]
theorem BTop.stop {N : NetD} {v : Nat} {st : BSt} (h : BTop N v st.2.length st) : dist N v = st.1 := by rw [h.eq, bfs_end N (Nat.le_refl _)]

theorem dist_inv {N : NetD} (hN : N.nodes) {v : Nat} (hv : v < N.ends.length) : ∃ st, BInv N.ends.length st ∧ dist N v = st.1 := by
  have key : ∀ f a st, f = N.ends.length + 1 - a → BTop N v a st → ∃ st, BInv N.ends.length st ∧ dist N v = st.1 := by
    intro f
    induction f with
    | zero => intro a st hf h; have := h.inv.le; have := h.le; omega
    | succ f ih =>
      intro a st hf h
      by_cases ha : a < st.2.length
      · obtain ⟨u, e1, e2, e3, e4⟩ := h.inv.node a ha
        have mid : ∀ k, k ≤ (nthL N.ends u).length → ∃ sk, BMid N a st u (nth st.1 u) k sk := by
          intro k
          induction k with
          | zero => intro _; exact ⟨st, BMid.start h.inv ha e1 rfl⟩
          | succ k ihk =>
            intro hk
            obtain ⟨sk, hsk⟩ := ihk (by omega)
            obtain ⟨t, ht, htl⟩ := hN u e2 k (by omega)
            exact ⟨_, hsk.next (by omega) ht htl⟩
        obtain ⟨sk, hsk⟩ := mid _ (Nat.le_refl _)
        exact ih (a + 1) sk (by omega) (h.next ha hsk e1 rfl)
      · have := h.le
        obtain rfl : a = st.2.length := by omega
        exact ⟨st, h.inv, h.stop⟩
  exact key _ 0 _ rfl (BTop.start hv)
theorem dist_len {N : NetD} (hN : N.nodes) {v : Nat} (hv : v < N.ends.length) : (dist N v).length = N.ends.length := by
  obtain ⟨st, h, e⟩ := dist_inv hN hv; rw [e]; exact h.len
theorem dist_low {N : NetD} (hN : N.nodes) {v : Nat} (hv : v < N.ends.length) {j : Nat} (hj : j < N.ends.length) : -1 ≤ nth (dist N v) j ∧ nth (dist N v) j ≤ N.ends.length := by
  obtain ⟨st, h, e⟩ := dist_inv hN hv; rw [e]; exact h.low j hj

end Go.Proofs.Ytcmmklcampmkjaa

/- slices.Repeat of a list of one number. -/
namespace Go.Proofs.Ytcmmklcampmkjaa
open Go.ChangeShapes Go.WideShapes Go.ChangeAt Go.RowKit
set_option linter.unusedVariables false

theorem setCells_row {w : World} {g n : Nat} {t : TypeId} {f : Nat → Value} (h : w.rowIs g t n f) : ∀ (cs : List Value) (o : Nat), (w.setCells g o cs).rowIs g t n (fun j => if o ≤ j ∧ j < o + cs.length then cs.getD (j - o) undef else f j) := by
  intro cs
  induction cs generalizing w f with
  | nil => intro o; exact h.congr fun j hj => by rw [if_neg (by simp)]; 
  | cons x cs ih =>
    intro o
    have := ih (h.set o x) (o + 1)
    refine this.congr fun j hj => ?_
    by_cases e1 : j = o
    · subst e1; rw [if_neg (by omega), if_pos rfl, if_pos (by simp)]; simp
    · by_cases e2 : o + 1 ≤ j ∧ j < o + 1 + cs.length
      · rw [if_pos e2, if_pos (by rw [List.length_cons]; omega), show j - o = (j - (o + 1)) + 1 by omega]; rfl
      · rw [if_neg e2, if_neg e1, if_neg (by rw [List.length_cons]; omega)]
theorem below_setCells {B : Nat} {a w : World} (h : Below B a w) {g : Nat} (hg : B ≤ g) : ∀ (cs : List Value) (o : Nat), Below B a (w.setCells g o cs) := by
  intro cs
  induction cs generalizing w with
  | nil => intro o; exact h
  | cons x cs ih => intro o; exact ih (h.setCell (p := ⟨g, o, none⟩) hg x) (o + 1)

theorem mul1_any (n : Nat) (hn : n ≤ 1048576) (w : World) : Calls Try.prog 87 #[.int .u64 1, .int .u64 n] w fun e w' => e = .returned (.tuple #[.int .u64 0, .int .u64 n]) ∧ w = w' := by
  refine (Try.bits_Mul 1 n (by omega) (by omega) w).mono ?_
  rintro e w' ⟨rfl, rfl⟩
  refine ⟨?_, rfl⟩
  rw [Nat.one_mul, Nat.div_eq_of_lt (by omega), Nat.mod_eq_of_lt (by omega)]
  rfl

set_option maxRecDepth 100000 in
set_option maxHeartbeats 1000000 in
theorem repeat1_any (v : Value) (x : Int) (n : Nat) (lo hi : Nat) (w : World) (h : IntS w lo hi v [x]) (hhi : hi ≤ w.heap.size) (hn : n ≤ 1048576) :
    Calls Try.prog 66 #[v, .int .i64 n] w fun e w' => ∃ r, e = .returned r ∧ IntS w' w.heap.size w'.heap.size r (List.replicate n x) ∧ Below w.heap.size w w' := by
  obtain ⟨A, c, rfl, hc1, hc2, hcell⟩ := h.form
  unfold maxLen at hc2
  obtain ⟨b, off, rfl, hb1, hb2, hcs⟩ := hcell (by simp)
  have hck := (hcs 0 (by simp)).1
  rw [nth_cons_zero, Nat.add_zero] at hck
  clear hcell hcs h
  simp only [List.length_singleton] at hc1 ⊢
  have hmk := fun W => run_make_row' (P := Try.prog) 23 3 (.int .i64 0) 8 Try.underlying23 Try.info3 rfl .i64 .i64 n (by omega) (by omega) W
  rcases Nat.eq_zero_or_pos n with h0 | h0
  · subst h0
    have hcp := fun ty W => run_copy_none (P := Try.prog) W 23 23 ty 3 (some ⟨w.heap.size, 0, none⟩) (some ⟨b, off, none⟩) 0 0 1 c Try.underlying23 (by kernel_rfl) (by simp)
    simp only [goInt] at hcp
    simp only [show ((0 : Nat) : Int) = 0 from rfl] at hmk
    go_enter Try.func66, Try.ntmps66
    go_wp2_with (go_at_call 87; refine (mul1_any 0 hn _).mono ?_; rintro e w' ⟨rfl, rfl⟩)
    go_loopw [8] (fun i wr => i = .int .i64 0 ∧ Below w.heap.size w wr) (fun _ _ => 0)
    case atStart => exact ⟨rfl, (Below.refl _ _).alloc (Nat.le_refl _) _⟩
    case round =>
      obtain ⟨rfl, hb⟩ := hrel
      go_wp2_with fail
      go_ret
      refine ⟨_, rfl, ?_, hb⟩
      exact ⟨_, 0, rfl, Nat.le_refl _, by simp, fun hp => absurd hp (by simp)⟩
  obtain ⟨W0, HW0⟩ : ∃ W0, Hid (W0 = w.alloc (.cells (madeCells #[.int .i64 0] n) 3)) := ⟨_, Lib.hid rfl⟩
  have hr0 : W0.rowIs w.heap.size 3 n (fun _ => .int .i64 0) := by rw [HW0.out]; exact World.rowIs_made w (.int .i64 0) n 3
  have hb0 : Below w.heap.size w W0 := by rw [HW0.out]; exact (Below.refl _ _).alloc (Nat.le_refl _) _
  have hcp := fun ty => run_copy_cells (P := Try.prog) W0 23 23 ty 3 w.heap.size 0 n n ⟨b, off, none⟩ 1 c [.int .i64 x] Try.underlying23 (by kernel_rfl) (by show 1 = min 1 n; omega)
    (fun j u hj => by
      match j, hj with
      | 0, hj =>
        simp only [List.getElem?_cons_zero, Option.some.injEq] at hj
        subst hj
        exact (hb0.cell (p := ⟨b, off, none⟩) (by show b < _; omega)).trans hck)
    (fun j hj => by rw [Nat.zero_add, hr0.cell (by simp at hj; omega)]; rfl) (fun j hj => by rw [Nat.zero_add]; exact hr0.frozen j) (by simp [Value.oneCell'])
  rw [HW0.out] at hcp
  simp only [goInt, List.length_singleton] at hcp
  go_enter Try.func66, Try.ntmps66
  go_wp2_with (go_at_call 87; refine (mul1_any n hn _).mono ?_; rintro e w' ⟨rfl, rfl⟩)
  rw [← HW0.out]
  clear hcp hmk
  have hr1 : (W0.setCells w.heap.size 0 [.int .i64 x]).rowIs w.heap.size 3 n (fun j => .int .i64 (if j < 1 then x else 0)) := (setCells_row hr0 _ 0).congr fun j hj => by
    by_cases e : j < 1
    · rw [if_pos (by simp; omega), if_pos e]; obtain rfl : j = 0 := by omega
      rfl
    · rw [if_neg (by simp; omega), if_neg e]
  go_loopw [8] (fun i wr => ∃ k : Nat, 1 ≤ k ∧ k ≤ n ∧ i = .int .i64 k ∧ wr.rowIs w.heap.size 3 n (fun j => .int .i64 (if j < k then x else 0)) ∧ Below w.heap.size w wr) (fun i _ => n - (intOf i).toNat)
  case atStart => exact ⟨1, by omega, by omega, rfl, hr1, below_setCells hb0 (Nat.le_refl _) _ _⟩
  case round =>
    clear hr0 hr1 hb0 HW0
    obtain ⟨k, hk1, hk, rfl, hrow, hb⟩ := hrel
    by_cases hlt : k < n
    · have hcp := fun ty => run_copy_cells (P := Try.prog) wr.drew 23 23 ty 3 w.heap.size k (n - k) (n - k) ⟨w.heap.size, 0, none⟩ k n (List.replicate (min k (n - k)) (.int .i64 x)) Try.underlying23 (by kernel_rfl) (by simp [Nat.min_def])
        (fun j u hj => by
          rw [Addr.add_lit, Nat.zero_add]
          have hj2 : j < min k (n - k) := by have := (List.getElem?_eq_some_iff.1 hj).1; simpa using this
          have := hrow.cell (i := j) (by omega)
          rw [if_pos (by omega)] at this
          rw [List.getElem?_replicate, if_pos hj2] at hj
          rw [← hj]
          exact this)
        (fun j hj => by rw [show wr.drew.cell? _ = wr.cell? _ from rfl, hrow.cell (by simp at hj; omega)]; rfl) (fun j hj => hrow.frozen (k + j)) (fun u hu => by rw [List.eq_of_mem_replicate hu]; rfl)
      simp only [goInt, List.length_replicate] at hcp
      go_wp2_with fail
      have hmin : min k (n - k) ≤ n - k := by omega
      have hmin1 : 1 ≤ min k (n - k) := by omega
      generalize hq : min k (n - k) = q at hcp hmin hmin1
      clear hq
      go_region
      go_wp2_with fail
      go_roundw
      case rel =>
        refine ⟨k + q, by omega, by omega, by go_num, ?_, below_setCells (w := wr.drew) ⟨hb.os, hb.tape, hb.output, hb.size, hb.block⟩ (Nat.le_refl _) _ _⟩
        refine (setCells_row (w := wr.drew) hrow _ k).congr fun j hj => ?_
        rw [List.length_replicate]
        by_cases e : k ≤ j ∧ j < k + q
        · rw [if_pos e, if_pos (by omega)]; simp [List.getD_eq_getElem?_getD, show j - k < q by omega]
        · rw [if_neg e]
          by_cases e2 : j < k
          · rw [if_pos e2, if_pos (by omega)]
          · rw [if_neg e2, if_neg (by omega)]
      case measure => simp [intOf]; omega
    · obtain rfl : k = n := by omega
      go_wp2_with fail
      go_ret
      refine ⟨.slice (some ⟨w.heap.size, 0, none⟩) k k, rfl, ?_, hb⟩
      unfold IntS
      rw [List.length_replicate]
      exact (Sl.of_row hrow (Nat.le_refl _) (by omega) (Nat.le_refl _) (by unfold maxLen; omega)).congr fun j hj => by
        rw [if_pos (by omega), nth_eq (by simp; omega)]; simp

/-- a slice of one number, just laid -/
theorem IntS.one (w : World) (x : Int) (t : TypeId) {g : Nat} (hg : w.heap.size = g) : IntS (w.alloc (.cells #[.int .i64 x] t)) g (g + 1) (.slice (some ⟨g, 0, none⟩) 1 1) [x] := by
  subst hg
  refine ⟨_, 1, rfl, Nat.le_refl _, by unfold maxLen; omega, fun _ => ⟨w.heap.size, 0, rfl, Nat.le_refl _, by omega, fun j hj => ?_⟩⟩
  obtain rfl : j = 0 := by simp at hj; omega
  exact ⟨by rw [World.cell?_alloc_at _ _ _ _ rfl]; rfl, World.frozen?_alloc_at _ _ _ _ rfl⟩

set_option maxHeartbeats 400000 in
theorem noMatching_any (v : Value) (N : NetD) (lo hi : Nat) (w : World) (h : Net w lo hi v N) (hhi : hi ≤ w.heap.size) (hn : N.ends.length ≤ 1048576) :
    Calls Try.prog 41 #[v] w fun e w' => ∃ r, e = .returned r ∧ IntS w' w.heap.size w'.heap.size r (List.replicate N.ends.length (-1)) ∧ Below w.heap.size w w' := by
  obtain ⟨A, c, A2, c2, A3, c3, rfl, _⟩ := h.parts
  go_enter Try.func41, Try.ntmps41
  go_wp2_with fail
  refine (repeat1_any _ (-1) N.ends.length (w.heap.size + 1) (w.heap.size + 1 + 1) _ (IntS.one _ _ _ (by simp)) (by simp) hn).mono ?_
  rintro e w1 ⟨r, rfl, hr, hb⟩
  have HR := Lib.hid hr
  have hsh := hr.shape
  rw [List.length_replicate] at hsh
  obtain ⟨B, d, rfl⟩ := hsh
  clear hr
  go_wp2_with fail
  go_ret
  exact ⟨_, rfl, HR.out.mono (lo' := w.heap.size) (by simp; omega) (Nat.le_refl _), Below.trans (B := w.heap.size) (below_a2' w _ _) (hb.mono (by simp; omega))⟩

end Go.Proofs.Ytcmmklcampmkjaa

/- Worlds that extend a world: all that was there is there still, new blocks may have come, draws may have been made. Regions whose operations read old memory and whose callees only make new memory: one walk of the text's order serves every order. -/
namespace Go.Proofs.Ytcmmklcampmkjaa
open Go.RowKit

/-- what has come: new blocks, and how many draws there have been -/
structure More where
  blocks : Array Obj
  draws : Nat
instance : Nonempty More := ⟨⟨#[], 0⟩⟩
def ext (W : World) (p : More) : World := { W with heap := W.heap ++ p.blocks, drawn := p.draws }
theorem ext_heap_old (W : World) (p : More) {k : Nat} (h : k < W.heap.size) : (ext W p).heap[k]? = W.heap[k]? := by simp [ext, Array.getElem?_append, h]
theorem ext_below (W : World) (p : More) : Below W.heap.size W (ext W p) := ⟨rfl, rfl, rfl, by simp [ext], fun k hk => ext_heap_old W p hk⟩
theorem ext_of_below {W w : World} (h : Below W.heap.size W w) : ∃ p, w = ext W p := by
  refine ⟨⟨w.heap.extract W.heap.size w.heap.size, w.drawn⟩, ?_⟩
  obtain ⟨h1, h2, h3, h4, h5⟩ := h
  cases w with
  | mk hp tp dr os out =>
    simp only [ext]
    simp only at h1 h2 h3 h4 h5
    subst h1 h2 h3
    congr 1
    apply Array.ext_getElem?
    intro i
    rw [Array.getElem?_append]
    by_cases hi : i < W.heap.size
    · rw [if_pos hi]; exact h5 i hi
    · rw [if_neg hi, Array.getElem?_extract]
      by_cases hl : i < hp.size
      · rw [if_pos (by omega), show W.heap.size + (i - W.heap.size) = i by omega]
      · rw [if_neg (by omega), Array.getElem?_eq_none (by omega)]
theorem ext_cell (W : World) {a : Addr} (h : a.block < W.heap.size) {v : Value} (hc : W.cell? a = some v) : ∀ p, (ext W p).cell? a = some v := fun p => (World.cell?_of_block (w := W) (ext_heap_old W p h)).trans hc
theorem ext_size (W : World) (p : More) : W.heap.size ≤ (ext W p).heap.size := (ext_below W p).size
/-- a callee's contract, met in such a world -/
theorem ext_call {P : Program} {f : FuncId} {args : Array Value} {W : World} {p : More} {v : Value}
    (h : Calls P f args (ext W p) fun e w' => e = .returned v ∧ Below (ext W p).heap.size (ext W p) w') : Calls P f args (ext W p) fun e w'' => e = .returned v ∧ ∃ q, w'' = ext W q :=
  h.mono fun _ _ ⟨he, hb⟩ => ⟨he, ext_of_below ((ext_below W p).trans (hb.mono (ext_size W p)))⟩
theorem wp_region_ext {P : Program} {id : Nat} {Q : Exit → Act → World → Prop} {a : Act} {w : World} {l : List Oper} (hm : P.follows .mixedOrders = true) (hB : Region.lexB .any l.toArray = true)
    (h : wpQuiet P l.toArray (fun w' => ∃ p, w' = ext w p) (fun a' => ∀ w', (∃ p, w' = ext w p) → Q .normal a' w') l a) : (Code.region id l.toArray true).wp P Q a w :=
  wp_region_quiet (C := fun w' => ∃ p, w' = ext w p) hm hB ⟨⟨#[], w.drawn + 1⟩, by simp [ext]⟩ (by simpa using h)

end Go.Proofs.Ytcmmklcampmkjaa
