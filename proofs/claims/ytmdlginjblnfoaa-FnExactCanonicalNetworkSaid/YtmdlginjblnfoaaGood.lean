/-
  Contracts of IsNetwork (program) and neGood (reference): both say whether a network is one.
-/
import Derived.Test.YtmdlginjblnfoaaBase
import Derived.Test.YtmdlginjblnfoaaNet
import Derived.Test.YtmdlginjblnfoaaShelf
import Derived.Test.YtmdlginjblnfoaaPlain
import Derived.Test.YtmdlginjblnfoaaEndEq
import Derived.Deep.RegionHeld3
import Derived.IntWalk
namespace Go.Proofs.Ytmdlginjblnfoaa
open Go.ChangeShapes Go.WideShapes Go.ChangeAt Go.RowKit
set_option linter.unusedVariables false

set_option maxHeartbeats 400000 in
theorem hasNode_any (v : Value) (N : NetD) (x : Int) (lo hi : Nat) (w : World) (h : Net w lo hi v N) (hhi : hi ≤ w.heap.size) :
    Calls Try.prog 58 #[v, .int .i64 x] w fun e w' => e = .returned (.bool (inB x 0 ((N.ends.length : Int) - 1))) ∧ Below w.heap.size w w' := by
  obtain ⟨ve, vi, vn, rfl, he, hi1, hn1⟩ := h
  obtain ⟨A, c, rfl, hc1, hc2, _⟩ := he.form
  unfold maxLen at hc2
  obtain ⟨A2, c2, rfl⟩ := hi1.shape
  obtain ⟨A3, c3, rfl⟩ := hn1.shape
  clear he hi1 hn1
  go_enter Try.func58, Try.ntmps58
  go_wp2_with (go_at_call 36; refine (within_any _ _ _ _).mono ?_; rintro e w' ⟨rfl, rfl⟩)
  go_ret
  exact ⟨rfl, below_a1 _ _⟩

/-- a port of a network -/
def NetD.port (N : NetD) (x i : Int) : Bool := inB x 0 ((N.ends.length : Int) - 1) && inB i 0 (((nthL N.ends x.toNat).length : Int) - 1)

set_option maxHeartbeats 1000000 in
theorem hasPort_any (v : Value) (N : NetD) (x i : Int) (lo hi : Nat) (w : World) (h : Net w lo hi v N) (hhi : hi ≤ w.heap.size) :
    Calls Try.prog 39 #[v, .int .i64 x, .int .i64 i] w fun e w' => e = .returned (.bool (N.port x i)) ∧ Below w.heap.size w w' := by
  have HN := Lib.hid h
  obtain ⟨ve, vi, vn, rfl, he, hi1, hn1⟩ := h
  obtain ⟨A, c, rfl, hc1, hc2, hcell⟩ := he.form
  unfold maxLen at hc2
  obtain ⟨A2, c2, rfl⟩ := hi1.shape
  obtain ⟨A3, c3, rfl⟩ := hn1.shape
  clear he hi1 hn1
  have hb0 : Below w.heap.size w (w.alloc (.cells #[.slice A N.ends.length c, .slice A2 N.ids.length c2, .slice A3 N.inputs.length c3] 31)) := below_a1 _ _
  have HN1 := Lib.hid (HN.out.below hb0 hhi)
  have b0 := Box3.new w 31 (.slice A N.ends.length c) (.slice A2 N.ids.length c2) (.slice A3 N.inputs.length c3)
  by_cases hx : inB x 0 ((N.ends.length : Int) - 1) = true
  · obtain ⟨x0, x1⟩ := inB_le hx
    obtain ⟨n, rfl⟩ : ∃ n : Nat, x = n := ⟨x.toNat, by omega⟩
    obtain ⟨b, off, rfl, hb1, hb2, hcs⟩ := hcell (by omega)
    obtain ⟨u, hu, hR⟩ := hcs n (by omega)
    obtain ⟨A4, c4, rfl, hd1, hd2, _⟩ := hR.form
    unfold maxLen at hd2
    clear hcs hcell hR
    have hu' := (hb0.cell (p := ⟨b, off + n, none⟩) (by show b < _; omega)).trans hu
    go_enter Try.func39, Try.ntmps39
    go_wp2_with fail
    refine (hasNode_any _ N _ lo hi _ HN1.out (by simp; omega)).mono ?_
    rintro e w1 ⟨rfl, hbq⟩
    rw [hx]
    have q0 := (b0.below hbq (by simp)).cells.1
    have q1 := (hbq.cell (p := ⟨b, off + n, none⟩) (by simp; omega)).trans hu'
    go_wp2_with (go_at_call 36; refine (within_any _ _ _ _).mono ?_; rintro e w' ⟨rfl, rfl⟩)
    go_ret
    exact ⟨ret_bool (by unfold NetD.port; rw [hx, Int.toNat_natCast]; rfl), hb0.trans (hbq.mono (by simp))⟩
  · have hx' : inB x 0 ((N.ends.length : Int) - 1) = false := by simpa using hx
    clear hx hcell
    go_enter Try.func39, Try.ntmps39
    go_wp2_with fail
    refine (hasNode_any _ N _ lo hi _ HN1.out (by simp; omega)).mono ?_
    rintro e w1 ⟨rfl, hbq⟩
    rw [hx']
    go_wp2_with fail
    go_ret
    exact ⟨ret_bool (by unfold NetD.port; rw [hx']; rfl), hb0.trans (hbq.mono (by simp))⟩

/-- slices.Clone -/
theorem clone_any (v : Value) (zs : List Int) (lo hi : Nat) (w : World) (h : IntS w lo hi v zs) (hn : zs.length ≤ 16777216) :
    Calls Try.prog 54 #[v] w fun e w' => ∃ r, e = .returned r ∧ OwnI w' w.heap.size 3 r zs ∧ Below w.heap.size w w' := by
  obtain ⟨A, c, rfl, hc1, hc2, hcell⟩ := h.form
  rcases Nat.eq_zero_or_pos zs.length with h0 | h0
  · obtain rfl : zs = [] := List.eq_nil_of_length_eq_zero h0
    cases A with
    | none =>
      refine (Try.slices_Clone_int_nil _ _ _).mono ?_
      rintro e w' ⟨rfl, rfl⟩
      exact ⟨_, rfl, OwnI.nil _ _ _, Below.refl _ _⟩
    | some a =>
      refine (Try.slices_Clone_int_zero _ _ _).mono ?_
      rintro e w' ⟨r, rfl, h1, _, h2⟩
      exact ⟨_, rfl, h1, h2⟩
  · obtain ⟨b, off, rfl, hb1, hb2, hcs⟩ := hcell h0
    refine (Try.slices_Clone_int b off zs.length c zs w (Nat.le_refl _) (by omega) (fun j hj => (hcs j hj).1)).mono ?_
    rintro e w' ⟨r, rfl, h1, _, h2⟩
    rw [List.take_length] at h1
    exact ⟨_, rfl, by simpa [OwnI, Own] using h1, h2⟩

open Go.Sort in
/-- slices.Sort -/
theorem sort_any (v : Value) (zs : List Int) (lo hi : Nat) (w : World) (h : IntS w lo hi v zs) (hhi : hi ≤ w.heap.size) (hn : zs.length ≤ 16777216) :
    Calls Try.prog 55 #[v] w fun e w' => e = .returned (.tuple #[]) ∧ IntS w' lo hi v (sortI zs) ∧ w.grownBy w' (rowOf zs.length v) := by
  obtain ⟨A, c, rfl, hc1, hc2, hcell⟩ := h.form
  rcases Nat.eq_zero_or_pos zs.length with h0 | h0
  · obtain rfl : zs = [] := List.eq_nil_of_length_eq_zero h0
    refine (Try.slices_Sort_int_none _ _ _).mono ?_
    rintro e w' ⟨rfl, rfl⟩
    exact ⟨rfl, by simpa [sortI] using h, World.grownBy.refl _ _⟩
  · obtain ⟨b, off, rfl, hb1, hb2, hcs⟩ := hcell h0
    have hH : Holds (Value.int .i64) w b off zs.toArray := fun j hj => by
      have hj' : j < zs.length := by simpa using hj
      have := hcs j hj'
      rw [nth_eq hj'] at this
      simpa [hj'] using this
    refine (Try.slices_Sort_int b off c zs w hH (by omega) (by omega)).mono ?_
    rintro e w' ⟨rfl, n, os, rfl⟩
    have hs : (zs.mergeSort fun x y => decide (x ≤ y)).toArray.size = zs.toArray.size := by simp
    have hH2 := holds_grow (Value.int .i64) _ os b off _ (by simp; omega) (holds_putRow (Value.int .i64) (Sort.ahead w n) b off zs.toArray (zs.mergeSort fun x y => decide (x ≤ y)).toArray hH hs)
    refine ⟨rfl, ?_, ?_⟩
    · refine ⟨_, c, by rw [sortI_length], by rw [sortI_length]; exact hc1, hc2, fun _ => ⟨b, off, rfl, hb1, hb2, fun j hj => ?_⟩⟩
      have hj1 : j < (sortI zs).length := by omega
      obtain ⟨q1, q2⟩ := hH2 j (by simpa [sortI] using hj1)
      refine ⟨?_, q2⟩
      show _ = some (Value.int .i64 (nth (sortI zs) j))
      rw [q1, nth_eq hj1]
      have hj2 : j < (zs.mergeSort fun x y => decide (x ≤ y)).length := hj1
      simp only [sortI]
      rw [getElem!_pos _ j (by simpa using hj2)]
      simp
    · rw [rowOf_some h0]
      refine ⟨rfl, rfl, rfl, by simp, fun k hk hne => ?_⟩
      rw [heap_grow_old _ _ (by simpa using hk)]
      have hkb : b ≠ k := fun e => hne (by rw [e])
      simp [putRow, mapBlock, Array.getElem?_modify, hkb]

set_option maxHeartbeats 400000 in
theorem idsOk_any (v : Value) (zs : List Int) (n : Int) (lo hi : Nat) (w : World) (h : IntS w lo hi v zs) (hhi : hi ≤ w.heap.size) (hn : zs.length ≤ 16777216) :
    Calls Try.prog 37 #[v, .int .i64 n] w fun e w' => e = .returned (.bool (idsGood zs n)) ∧ Below w.heap.size w w' := by
  have HH := Lib.hid h
  obtain ⟨A, c, rfl⟩ := h.shape
  clear h
  by_cases h0 : zs.length = 0
  · have h0' : ((zs.length : Int) == 0) = true := by simp [h0]
    have H0 := Lib.hid h0
    clear h0
    go_enter Try.func37, Try.ntmps37
    go_wp2
    go_ret
    exact ⟨ret_bool (by rw [← idsOk_eq]; unfold idsOkB; rw [decide_eq_true H0.out]; rfl), Below.refl _ _⟩
  · have h0' : ((zs.length : Int) == 0) = false := by rw [beq_eq_false_iff_ne]; omega
    have H0 := Lib.hid h0
    clear h0
    go_enter Try.func37, Try.ntmps37
    go_wp2_with fail
    refine (clone_any _ zs lo hi _ HH.out hn).mono ?_
    rintro e w1 ⟨r, rfl, hr, hb1⟩
    have hr1 := hr.ints
    have R1 := Lib.hid hr1
    obtain ⟨B, d, rfl⟩ := hr1.shape
    clear hr1 hr
    go_wp2_with fail
    refine (sort_any _ zs _ _ _ R1.out (Nat.le_refl _) hn).mono ?_
    rintro e w2 ⟨rfl, hr2, hg⟩
    have hbw : Below w.heap.size w w2 := hb1.grown hg hb1.size (fun k hk => by rcases Sl.row R1.out with e | ⟨b, e, h1, _⟩ <;> rw [e] at hk <;> injection hk; omega)
    have R2 := Lib.hid hr2
    clear hr2 hg
    by_cases hl : (zs.length : Int) = n
    · have hl' : ((zs.length : Int) == n) = true := by simpa using hl
      have HL := Lib.hid hl
      clear hl
      go_wp2_with (go_at_call 56; refine (increasing_any _ (sortI zs) _ _ _ _ _ R2.out).mono ?_; rintro e w' ⟨rfl, rfl⟩)
      go_ret
      exact ⟨ret_bool (by rw [← idsOk_eq]; unfold idsOkB; rw [decide_eq_false H0.out, decide_eq_true HL.out]; rfl), hbw⟩
    · have hl' : ((zs.length : Int) == n) = false := by simpa using hl
      have HL := Lib.hid hl
      clear hl
      go_wp2_with fail
      go_ret
      exact ⟨ret_bool (by rw [← idsOk_eq]; unfold idsOkB; rw [decide_eq_false H0.out, decide_eq_false HL.out]; rfl), hbw⟩

def insGood (zs : List Int) (n : Int) : Bool := decide ((zs.length : Int) = n) && zs.all fun x => inB x 0 9
set_option maxHeartbeats 400000 in
theorem inputsOk_any (v : Value) (zs : List Int) (n : Int) (lo hi : Nat) (w : World) (h : IntS w lo hi v zs) (hhi : hi ≤ w.heap.size) :
    Calls Try.prog 38 #[v, .int .i64 n] w fun e w' => e = .returned (.bool (insGood zs n)) ∧ Below w.heap.size w w' := by
  have HH := Lib.hid h
  obtain ⟨A, c, rfl⟩ := h.shape
  clear h
  by_cases hl : (zs.length : Int) = n
  · have hl' : ((zs.length : Int) == n) = true := by simpa using hl
    have HL := Lib.hid hl
    clear hl
    go_enter Try.func38, Try.ntmps38
    go_wp2_with (go_at_call 57; refine (allWithin_any _ zs _ _ lo hi _ HH.out hhi).mono ?_; rintro e w' ⟨rfl, hb⟩)
    go_ret
    exact ⟨ret_bool (by unfold insGood; rw [decide_eq_true HL.out]; rfl), hb⟩
  · have hl' : ((zs.length : Int) == n) = false := by simpa using hl
    have HL := Lib.hid hl
    clear hl
    go_enter Try.func38, Try.ntmps38
    go_wp2_with fail
    go_ret
    exact ⟨ret_bool (by unfold insGood; rw [decide_eq_false HL.out]; rfl), Below.refl _ _⟩

def NetD.endOk (N : NetD) (v i : Nat) : Bool := N.port (nthE (nthL N.ends v) i).1 (nthE (nthL N.ends v) i).2 && decide (nthE (nthL N.ends (nthE (nthL N.ends v) i).1.toNat) (nthE (nthL N.ends v) i).2.toNat = ((v : Int), (i : Int)))
def NetD.rowOk (N : NetD) (v : Nat) : Bool := decide ((nthL N.ends v).length ≤ 6) && (List.range (nthL N.ends v).length).all (N.endOk v)
def NetD.headOk (N : NetD) : Bool := inB N.ends.length 1 40 && (idsGood N.ids N.ends.length && insGood N.inputs N.ends.length)
def NetD.good (N : NetD) : Bool := N.headOk && (List.range N.ends.length).all N.rowOk
theorem good_head {N : NetD} (h : N.headOk = false) : N.good = false := by unfold NetD.good; rw [h]; rfl
theorem good_row {N : NetD} {v : Nat} (hv : v < N.ends.length) (h : N.rowOk v = false) : N.good = false := by
  have : (List.range N.ends.length).all N.rowOk = false := by
    rw [Bool.eq_false_iff]; intro ha; rw [List.all_eq_true] at ha
    have := ha v (List.mem_range.2 hv); rw [h] at this; cases this
  unfold NetD.good; rw [this, Bool.and_false]
theorem good_yes {N : NetD} (h : N.headOk = true) (hr : ∀ v, v < N.ends.length → N.rowOk v = true) : N.good = true := by
  have : (List.range N.ends.length).all N.rowOk = true := by rw [List.all_eq_true]; intro v hv; exact hr v (List.mem_range.1 hv)
  unfold NetD.good; rw [this, h]; rfl
theorem row_wide {N : NetD} {v : Nat} (h : 6 < (nthL N.ends v).length) : N.rowOk v = false := by unfold NetD.rowOk; rw [decide_eq_false (by omega)]; rfl
theorem row_end {N : NetD} {v i : Nat} (hi : i < (nthL N.ends v).length) (h : N.endOk v i = false) : N.rowOk v = false := by
  have : (List.range (nthL N.ends v).length).all (N.endOk v) = false := by
    rw [Bool.eq_false_iff]; intro ha; rw [List.all_eq_true] at ha
    have := ha i (List.mem_range.2 hi); rw [h] at this; cases this
  unfold NetD.rowOk; rw [this, Bool.and_false]
theorem row_yes {N : NetD} {v : Nat} (h : (nthL N.ends v).length ≤ 6) (hr : ∀ i, i < (nthL N.ends v).length → N.endOk v i = true) : N.rowOk v = true := by
  have : (List.range (nthL N.ends v).length).all (N.endOk v) = true := by rw [List.all_eq_true]; intro i hi; exact hr i (List.mem_range.1 hi)
  unfold NetD.rowOk; rw [this, decide_eq_true h]; rfl

set_option maxHeartbeats 4000000 in
set_option maxRecDepth 100000 in
theorem neGood_any (v : Value) (N : NetD) (lo hi : Nat) (w : World) (h : Net w lo hi v N) (hhi : hi ≤ w.heap.size) (hsz : N.sz ≤ 1048576) :
    Calls Try.prog 19 #[v] w fun e w' => e = .returned (.bool N.good) ∧ Below w.heap.size w w' := by
  unfold NetD.sz at hsz
  obtain ⟨ve, vi, vn, rfl, he, hi1, hn1⟩ := h
  obtain ⟨A, c, rfl, hc1, hc2, hcell⟩ := he.form
  unfold maxLen at hc2
  have hle : N.ends.length ≤ 1048576 := by unfold szSS at hsz; omega
  have hb0 := fun o => below_a1 w o
  obtain ⟨A2, c2, rfl⟩ := hi1.shape
  obtain ⟨A3, c3, rfl⟩ := hn1.shape
  have b0 := Box3.new w 31 (.slice A N.ends.length c) (.slice A2 N.ids.length c2) (.slice A3 N.inputs.length c3)
  have HI := Lib.hid (hi1.below (hb0 (.cells #[.slice A N.ends.length c, .slice A2 N.ids.length c2, .slice A3 N.inputs.length c3] 31)) hhi)
  have HN := Lib.hid (hn1.below (hb0 (.cells #[.slice A N.ends.length c, .slice A2 N.ids.length c2, .slice A3 N.inputs.length c3] 31)) hhi)
  have HB0 := Lib.hid (hb0 (.cells #[.slice A N.ends.length c, .slice A2 N.ids.length c2, .slice A3 N.inputs.length c3] 31))
  clear he hi1 hn1 hb0
  by_cases g1 : inB N.ends.length 1 40 = true
  case neg =>
    have g1' : inB N.ends.length 1 40 = false := by simpa using g1
    clear g1 hcell
    go_enter Try.func19, Try.ntmps19
    go_wp2_with (go_at_call 31; refine (l1In_any _ _ _ _).mono ?_; rintro e w' ⟨rfl, rfl⟩)
    go_ret
    exact ⟨ret_bool (good_head (by unfold NetD.headOk; rw [g1']; rfl)).symm, HB0.out⟩
  by_cases g2 : idsGood N.ids N.ends.length = true
  case neg =>
    have g2' : idsGood N.ids N.ends.length = false := by simpa using g2
    clear g2 hcell
    go_enter Try.func19, Try.ntmps19
    go_wp2_with (first
      | (go_at_call 31; refine (l1In_any _ _ _ _).mono ?_; rintro e w' ⟨rfl, rfl⟩)
      | (go_at_call 32; refine (neIds_any _ N.ids _ lo hi _ HI.out).mono ?_; rintro e w' ⟨rfl, rfl⟩))
    go_ret
    exact ⟨ret_bool (good_head (by unfold NetD.headOk; rw [g2']; simp)).symm, HB0.out⟩
  by_cases g3 : N.inputs.length = N.ends.length
  case neg =>
    have g3' : ((N.inputs.length : Int) != (N.ends.length : Int)) = true := by simp; omega
    clear hcell
    go_enter Try.func19, Try.ntmps19
    go_wp2_with (first
      | (go_at_call 31; refine (l1In_any _ _ _ _).mono ?_; rintro e w' ⟨rfl, rfl⟩)
      | (go_at_call 32; refine (neIds_any _ N.ids _ lo hi _ HI.out).mono ?_; rintro e w' ⟨rfl, rfl⟩))
    go_ret
    exact ⟨ret_bool (good_head (by unfold NetD.headOk insGood; rw [decide_eq_false (by omega)]; simp)).symm, HB0.out⟩
  have g3' : ((N.inputs.length : Int) != (N.ends.length : Int)) = false := by simp [g3]
  have G3 := Lib.hid g3
  clear g3
  by_cases g4 : (N.inputs.all fun x => inB x 0 9) = true
  case neg =>
    have g4' : (N.inputs.all fun x => inB x 0 9) = false := by simpa using g4
    have G4 := Lib.hid g4'
    clear hcell g4 g4'
    go_enter Try.func19, Try.ntmps19
    go_wp2_with (first
      | (go_at_call 31; refine (l1In_any _ _ _ _).mono ?_; rintro e w' ⟨rfl, rfl⟩)
      | (go_at_call 32; refine (neIds_any _ N.ids _ lo hi _ HI.out).mono ?_; rintro e w' ⟨rfl, rfl⟩)
      | (go_at_call 33; refine (l1All_any _ N.inputs _ _ lo hi _ HN.out).mono ?_; rintro e w' ⟨rfl, rfl⟩; rw [G4.out]))
    go_ret
    exact ⟨ret_bool (good_head (by unfold NetD.headOk insGood; rw [G4.out]; simp)).symm, HB0.out⟩
  have G4 := Lib.hid g4
  have HD := Lib.hid (show N.headOk = true by unfold NetD.headOk insGood; rw [g1, g2, g4, decide_eq_true (by rw [G3.out])]; rfl)
  clear g4
  obtain ⟨n1, n40⟩ := inB_le g1
  obtain ⟨b, off, rfl, hb1, hb2, hcs⟩ := hcell (by omega)
  have HCS := Lib.hid hcs
  clear hcell hcs
  go_enter Try.func19, Try.ntmps19
  go_wp2_with (first
    | (go_at_call 31; refine (l1In_any _ _ _ _).mono ?_; rintro e w' ⟨rfl, rfl⟩)
    | (go_at_call 32; refine (neIds_any _ N.ids _ lo hi _ HI.out).mono ?_; rintro e w' ⟨rfl, rfl⟩)
    | (go_at_call 33; refine (l1All_any _ N.inputs _ _ lo hi _ HN.out).mono ?_; rintro e w' ⟨rfl, rfl⟩; rw [G4.out]))
  go_loopw [39] (fun i wr => ∃ k : Nat, k ≤ N.ends.length ∧ i = .int .i64 k ∧ Hid (∀ j, j < k → N.rowOk j = true) ∧ Box3 wr w.heap.size 31 (.slice (some ⟨b, off, none⟩) N.ends.length c) (.slice A2 N.ids.length c2) (.slice A3 N.inputs.length c3) ∧ Below w.heap.size w wr) (fun i _ => N.ends.length - (intOf i).toNat)
  case atStart => exact ⟨0, Nat.zero_le _, rfl, Lib.hid fun j hj => absurd hj (by omega), b0, HB0.out⟩
  case round =>
    clear b0
    obtain ⟨k, hk, rfl, HU, hbx, hb⟩ := hrel
    have hs0 := hb.size
    by_cases hlt : k < N.ends.length
    case neg =>
      obtain rfl : k = N.ends.length := by omega
      go_wp2
      go_ret
      exact ⟨ret_bool (good_yes HD.out HU.out).symm, hb⟩
    obtain ⟨u, hu, hR⟩ := HCS.out k hlt
    obtain ⟨A4, c4, rfl, hd1, hd2, hcell4⟩ := hR.form
    unfold maxLen at hd2
    have hck := (hb.cell (p := ⟨b, off + k, none⟩) (by show b < _; omega)).trans hu
    have HC4 := Lib.hid hcell4
    clear hu hcell4 hR
    by_cases hl6 : (nthL N.ends k).length ≤ 6
    case neg =>
      have hl6' : (6 : Int) < (nthL N.ends k).length := by omega
      go_wp2
      go_ret
      exact ⟨ret_bool (good_row hlt (row_wide (by omega))).symm, hb⟩
    obtain ⟨wo, rfl⟩ : ∃ wo : World, wo = wr := ⟨_, rfl⟩
    go_wp2
    go_loopw [49] (fun i wi => ∃ m : Nat, m ≤ (nthL N.ends k).length ∧ i = .int .i64 m ∧ Hid (∀ j, j < m → N.endOk k j = true) ∧ Box3 wi w.heap.size 31 (.slice (some ⟨b, off, none⟩) N.ends.length c) (.slice A2 N.ids.length c2) (.slice A3 N.inputs.length c3) ∧ Below w.heap.size w wi) (fun i _ => (nthL N.ends k).length - (intOf i).toNat)
    case atStart => exact ⟨0, Nat.zero_le _, rfl, Lib.hid fun j hj => absurd hj (by omega), hbx, hb⟩
    case round =>
      clear hbx hb hck
      obtain ⟨m, hm, rfl, HV, hbx, hb⟩ := hrel
      have hs1 := hb.size
      by_cases hml : m < (nthL N.ends k).length
      case neg =>
        obtain rfl : m = (nthL N.ends k).length := by omega
        go_wp2
        go_roundw
        case rel =>
          refine ⟨k + 1, by omega, by go_num, Lib.hid fun j hj => ?_, hbx, hb⟩
          by_cases e : j = k
          · subst e; exact row_yes hl6 HV.out
          · exact HU.out j (by omega)
        case measure => simp [intOf]; omega
      obtain ⟨b4, off4, rfl, hb5, hb6, hcs4⟩ := HC4.out (by omega)
      obtain ⟨x1, x2⟩ := hcs4 m hml
      have e1 := (hb.cell (p := ⟨b4, off4 + m * 2, none⟩) (by show b4 < _; omega)).trans x1
      have e2 := (hb.cell (p := ⟨b4, off4 + m * 2 + 1, none⟩) (by show b4 < _; omega)).trans x2
      clear hcs4 x1 x2
      obtain ⟨p1, p2, HP⟩ : ∃ p1 p2, Hid (nthE (nthL N.ends k) m = (p1, p2)) := ⟨_, _, Lib.hid rfl⟩
      rw [HP.out] at e1 e2
      dsimp only at e1 e2
      have q0 : (wr.alloc (.cells #[.int .i64 p1, .int .i64 p2] 56)).cell? ⟨w.heap.size, 0, none⟩ = some (.slice (some ⟨b, off, none⟩) N.ends.length c) := (hbx.alloc _).cells.1
      have hbW : Below w.heap.size w (wr.alloc (.cells #[.int .i64 p1, .int .i64 p2] 56)) := hb.alloc hs1 _
      have sub1 : IntKind.i64.wrap ((N.ends.length : Int) - 1) = (N.ends.length : Int) - 1 := IntWalk.i64_in _ (by omega)
      by_cases k1 : inB p1 0 ((N.ends.length : Int) - 1) = true
      case neg =>
        have k1' : inB p1 0 ((N.ends.length : Int) - 1) = false := by simpa using k1
        clear k1
        go_wp2
        go_quiet ((go_at_call 31; exact quiet_left (l1In_any _ _ _ _)))
        go_wp2
        go_ret
        exact ⟨ret_bool (good_row hlt (row_end hml (by unfold NetD.endOk; rw [HP.out]; dsimp only; unfold NetD.port; rw [k1']; rfl))).symm, below_drewN hbW _⟩
      obtain ⟨y1, y2⟩ := inB_le k1
      obtain ⟨t, rfl⟩ : ∃ t : Nat, p1 = t := ⟨p1.toNat, by omega⟩
      have htl : t < N.ends.length := by omega
      obtain ⟨u5, hu5, hR5⟩ := HCS.out t htl
      obtain ⟨A5, c5, rfl, hf1, hf2, hcell5⟩ := hR5.form
      unfold maxLen at hf2
      have q5 := (hbW.cell (p := ⟨b, off + t, none⟩) (by show b < _; omega)).trans hu5
      have sub2 : IntKind.i64.wrap (((nthL N.ends t).length : Int) - 1) = ((nthL N.ends t).length : Int) - 1 := IntWalk.i64_in _ (by omega)
      have hti : (t : Int) < N.ends.length := by omega
      clear hu5 hR5
      by_cases k2 : inB p2 0 (((nthL N.ends t).length : Int) - 1) = true
      case neg =>
        have k2' : inB p2 0 (((nthL N.ends t).length : Int) - 1) = false := by simpa using k2
        clear k2 hcell5
        go_wp2
        go_quiet ((go_at_call 31; exact quiet_left (l1In_any _ _ _ _)))
        go_wp2
        go_ret
        exact ⟨ret_bool (good_row hlt (row_end hml (by unfold NetD.endOk; rw [HP.out]; dsimp only; unfold NetD.port; rw [Int.toNat_natCast, k2']; simp))).symm, below_drewN hbW _⟩
      obtain ⟨z1, z2⟩ := inB_le k2
      obtain ⟨r, rfl⟩ : ∃ r : Nat, p2 = r := ⟨p2.toNat, by omega⟩
      have hrl : r < (nthL N.ends t).length := by omega
      have hri : (r : Int) < (nthL N.ends t).length := by omega
      obtain ⟨b6, off6, rfl, hb7, hb8, hcs6⟩ := hcell5 (by omega)
      obtain ⟨f1, f2⟩ := hcs6 r hrl
      have d1 := (hbW.cell (p := ⟨b6, off6 + r * 2, none⟩) (by show b6 < _; omega)).trans f1
      have d2 := (hbW.cell (p := ⟨b6, off6 + r * 2 + 1, none⟩) (by show b6 < _; omega)).trans f2
      obtain ⟨s1, s2, HQ⟩ : ∃ s1 s2, Hid (nthE (nthL N.ends t) r = (s1, s2)) := ⟨_, _, Lib.hid rfl⟩
      rw [HQ.out] at d1 d2
      dsimp only at d1 d2
      clear f1 f2 hcs6 hcell5
      by_cases k3 : ((s1, s2) : Int × Int) = ((k : Int), (m : Int))
      case neg =>
        have k3' : ∀ w, (binOp .neq 56 (.agg #[.int .i64 s1, .int .i64 s2]) (.agg #[.int .i64 k, .int .i64 m])).run Try.prog w = .ok (.bool true) w := fun w => by
          rw [neq_end, show (!(s1 == (k : Int) && s2 == (m : Int))) = true by
            rw [Bool.not_eq_true', Bool.and_eq_false_iff]; simp only [Prod.mk.injEq] at k3; by_cases q : s1 = (k : Int)
            · right; simpa using fun e => k3 ⟨q, e⟩
            · left; simpa using q]
        have K3 := Lib.hid k3
        clear k3
        go_wp2
        go_quiet ((go_at_call 31; exact quiet_left (l1In_any _ _ _ _)))
        go_wp2
        go_ret
        exact ⟨ret_bool (good_row hlt (row_end hml (by unfold NetD.endOk; rw [HP.out]; dsimp only; rw [Int.toNat_natCast, Int.toNat_natCast, HQ.out, decide_eq_false K3.out, Bool.and_false]))).symm, below_drewN hbW _⟩
      have k3' : ∀ w, (binOp .neq 56 (.agg #[.int .i64 s1, .int .i64 s2]) (.agg #[.int .i64 k, .int .i64 m])).run Try.prog w = .ok (.bool false) w := fun w => by
        simp only [Prod.mk.injEq] at k3
        rw [neq_end, k3.1, k3.2]; simp
      have K3 := Lib.hid k3
      clear k3
      go_wp2
      go_quiet ((go_at_call 31; exact quiet_left (l1In_any _ _ _ _)))
      go_wp2
      go_roundw
      case rel =>
        refine ⟨m + 1, by omega, by go_num, Lib.hid fun j hj => ?_, hbx.alloc _, below_drewN hbW _⟩
        by_cases e : j = m
        · subst e
          unfold NetD.endOk
          rw [HP.out]
          dsimp only
          rw [Int.toNat_natCast, Int.toNat_natCast, HQ.out, decide_eq_true K3.out, Bool.and_true]
          unfold NetD.port
          rw [k1, Int.toNat_natCast, k2]
          rfl
        · exact HV.out j (by omega)
      case measure => simp [intOf]; omega

end Go.Proofs.Ytmdlginjblnfoaa
