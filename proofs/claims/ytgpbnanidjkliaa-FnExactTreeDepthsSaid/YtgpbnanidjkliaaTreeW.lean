/-
  Contracts of TreeRoot and TreeDepths, of the program and of the reference.
-/
import Derived.Test.YtgpbnanidjkliaaTreeI
namespace Go.Proofs.Ytgpbnanidjkliaa
open Go.ChangeShapes Go.WideShapes Go.ChangeAt Go.RowKit
set_option linter.unusedVariables false

def trOk (N : NetD) (ps : List Int) : Bool := N.good && tdOk N ps
def trRoot (N : NetD) (ps : List Int) : Int := if N.good then tdRoot N ps else 0
def trDepths (N : NetD) (ps : List Int) : List Int := if N.good then tdDepths N ps else []
theorem trDepths_len (N : NetD) (ps : List Int) : (trDepths N ps).length ≤ ps.length := by
  unfold trDepths tdDepths
  split
  · split
    · rw [tdAll_length]; exact Nat.le_refl _
    · exact Nat.zero_le _
  · exact Nat.zero_le _

set_option maxHeartbeats 1000000 in
theorem TreeRoot_spec (v1 : Value) (N : NetD) (lo1 hi1 : Nat) (v2 : Value) (ps : List Int) (lo2 hi2 : Nat) (w : World) (h1 : Net w lo1 hi1 v1 N) (hh1 : hi1 ≤ w.heap.size) (h2 : IntS w lo2 hi2 v2 ps) (hh2 : hi2 ≤ w.heap.size) (hz1 : N.sz ≤ 1048576) (hz2 : ps.length ≤ 1048576) (o1 : N.Ok) (o2 : ∀ z ∈ ps, I64 z) :
    Calls Try.prog 16 #[v1, v2] w fun e w' => e = .returned (.tuple #[.int .i64 (trRoot N ps), .bool (trOk N ps)]) ∧ Below w.heap.size w w' := by
  have HN := Lib.hid h1
  have HP := Lib.hid h2
  obtain ⟨A, c, A2, c2, A3, c3, rfl, _⟩ := h1.parts
  obtain ⟨B, d, rfl⟩ := h2.shape
  clear h1 h2 o1 o2
  obtain ⟨W0, HW0⟩ : ∃ W0, Hid (W0 = w.alloc (.cells #[.slice A N.ends.length c, .slice A2 N.ids.length c2, .slice A3 N.inputs.length c3] 31)) := ⟨_, Lib.hid rfl⟩
  have b0 : Box3 W0 w.heap.size 31 (.slice A N.ends.length c) (.slice A2 N.ids.length c2) (.slice A3 N.inputs.length c3) := by rw [HW0.out]; exact Box3.new w 31 _ _ _
  have hb0 : Below w.heap.size w W0 := by rw [HW0.out]; exact below_a1 _ _
  have hs0 : w.heap.size + 1 ≤ W0.heap.size := by rw [HW0.out]; simp
  go_enter Try.func16, Try.ntmps16
  go_wp2_with fail
  rw [← HW0.out]
  clear HW0
  refine (neGood_any _ N lo1 hi1 _ (HN.out.below hb0 hh1) (by omega) hz1).mono ?_
  rintro e w1 ⟨rfl, hb1⟩
  have hs1 := hb1.size
  have b1 := b0.below hb1 (by omega)
  have hw1 := hb0.trans (hb1.mono (by omega))
  clear b0 hb0 hb1
  obtain ⟨k0, k1, k2⟩ := b1.cells
  by_cases hg : N.good = true
  case neg =>
    have hg' : N.good = false := by simpa using hg
    rw [hg']
    go_wp2_with fail
    go_ret2
    exact ⟨ret_pair (by unfold trRoot; rw [hg']; rfl) (by unfold trOk; rw [hg']; rfl), hw1⟩
  rw [hg]
  go_wp2_with fail
  refine (biDepths_any _ _ N ps lo1 hi1 lo2 hi2 _ (HN.out.below hw1 hh1) (HP.out.below hw1 hh2) (by omega) (by omega) hg hz2).mono ?_
  rintro e w2 ⟨r, rfl, hr, hb2⟩
  go_wp2_with fail
  go_ret2
  exact ⟨ret_pair (by unfold trRoot; rw [hg]; rfl) (by unfold trOk; rw [hg]; rfl), hw1.trans (hb2.mono (by omega))⟩

set_option maxHeartbeats 1000000 in
theorem TreeDepths_spec (v1 : Value) (N : NetD) (lo1 hi1 : Nat) (v2 : Value) (ps : List Int) (lo2 hi2 : Nat) (w : World) (h1 : Net w lo1 hi1 v1 N) (hh1 : hi1 ≤ w.heap.size) (h2 : IntS w lo2 hi2 v2 ps) (hh2 : hi2 ≤ w.heap.size) (hz1 : N.sz ≤ 1048576) (hz2 : ps.length ≤ 1048576) (o1 : N.Ok) (o2 : ∀ z ∈ ps, I64 z) :
    Calls Try.prog 22 #[v1, v2] w fun e w' => ∃ r, e = .returned (.tuple #[r, .bool (trOk N ps)]) ∧ IntS w' w.heap.size w'.heap.size r (trDepths N ps) ∧ Below w.heap.size w w' := by
  have HN := Lib.hid h1
  have HP := Lib.hid h2
  obtain ⟨A, c, A2, c2, A3, c3, rfl, _⟩ := h1.parts
  obtain ⟨B, d, rfl⟩ := h2.shape
  clear h1 h2 o1 o2
  obtain ⟨W0, HW0⟩ : ∃ W0, Hid (W0 = w.alloc (.cells #[.slice A N.ends.length c, .slice A2 N.ids.length c2, .slice A3 N.inputs.length c3] 31)) := ⟨_, Lib.hid rfl⟩
  have b0 : Box3 W0 w.heap.size 31 (.slice A N.ends.length c) (.slice A2 N.ids.length c2) (.slice A3 N.inputs.length c3) := by rw [HW0.out]; exact Box3.new w 31 _ _ _
  have hb0 : Below w.heap.size w W0 := by rw [HW0.out]; exact below_a1 _ _
  have hs0 : w.heap.size + 1 ≤ W0.heap.size := by rw [HW0.out]; simp
  go_enter Try.func22, Try.ntmps22
  go_wp2_with fail
  rw [← HW0.out]
  clear HW0
  refine (neGood_any _ N lo1 hi1 _ (HN.out.below hb0 hh1) (by omega) hz1).mono ?_
  rintro e w1 ⟨rfl, hb1⟩
  have hs1 := hb1.size
  have b1 := b0.below hb1 (by omega)
  have hw1 := hb0.trans (hb1.mono (by omega))
  clear b0 hb0 hb1
  obtain ⟨k0, k1, k2⟩ := b1.cells
  by_cases hg : N.good = true
  case neg =>
    have hg' : N.good = false := by simpa using hg
    rw [hg']
    go_wp2_with fail
    go_ret2
    exact ⟨_, ret_vb (by unfold trOk; rw [hg']; rfl), by unfold trDepths; rw [hg']; exact IntS.nil _ _ _, hw1⟩
  rw [hg]
  go_wp2_with fail
  refine (biDepths_any _ _ N ps lo1 hi1 lo2 hi2 _ (HN.out.below hw1 hh1) (HP.out.below hw1 hh2) (by omega) (by omega) hg hz2).mono ?_
  rintro e w2 ⟨r, rfl, hr, hb2⟩
  have RR := Lib.hid hr
  clear hr
  go_wp2_with fail
  go_ret2
  exact ⟨_, ret_vb (by unfold trOk; rw [hg]; rfl), by unfold trDepths; rw [hg]; exact RR.out.mono (by omega) (Nat.le_refl _), hw1.trans (hb2.mono (by omega))⟩

set_option maxHeartbeats 1000000 in
theorem TreeRoot_impl (v1 : Value) (N : NetD) (lo1 hi1 : Nat) (v2 : Value) (ps : List Int) (lo2 hi2 : Nat) (w : World) (h1 : Net w lo1 hi1 v1 N) (hh1 : hi1 ≤ w.heap.size) (h2 : IntS w lo2 hi2 v2 ps) (hh2 : hi2 ≤ w.heap.size) (hz1 : N.sz ≤ 1048576) (hz2 : ps.length ≤ 1048576) (o1 : N.Ok) (o2 : ∀ z ∈ ps, I64 z) :
    Calls Try.prog 19 #[v1, v2] w fun e w' => e = .returned (.tuple #[.int .i64 (trRoot N ps), .bool (trOk N ps)]) ∧ Below w.heap.size w w' := by
  have HN := Lib.hid h1
  have HP := Lib.hid h2
  obtain ⟨A, c, A2, c2, A3, c3, rfl, _⟩ := h1.parts
  obtain ⟨B, d, rfl⟩ := h2.shape
  clear h1 h2 o1 o2
  obtain ⟨W0, HW0⟩ : ∃ W0, Hid (W0 = w.alloc (.cells #[.slice A N.ends.length c, .slice A2 N.ids.length c2, .slice A3 N.inputs.length c3] 31)) := ⟨_, Lib.hid rfl⟩
  have b0 : Box3 W0 w.heap.size 31 (.slice A N.ends.length c) (.slice A2 N.ids.length c2) (.slice A3 N.inputs.length c3) := by rw [HW0.out]; exact Box3.new w 31 _ _ _
  have hb0 : Below w.heap.size w W0 := by rw [HW0.out]; exact below_a1 _ _
  have hs0 : w.heap.size + 1 ≤ W0.heap.size := by rw [HW0.out]; simp
  go_enter Try.func19, Try.ntmps19
  go_wp2_with fail
  rw [← HW0.out]
  clear HW0
  refine (IsNetwork_any _ N lo1 hi1 _ (HN.out.below hb0 hh1) (by omega) hz1).mono ?_
  rintro e w1 ⟨rfl, hb1⟩
  have hs1 := hb1.size
  have b1 := b0.below hb1 (by omega)
  have hw1 := hb0.trans (hb1.mono (by omega))
  clear b0 hb0 hb1
  obtain ⟨k0, k1, k2⟩ := b1.cells
  by_cases hg : N.good = true
  case neg =>
    have hg' : N.good = false := by simpa using hg
    rw [hg']
    go_wp2_with fail
    go_ret2
    exact ⟨ret_pair (by unfold trRoot; rw [hg']; rfl) (by unfold trOk; rw [hg']; rfl), hw1⟩
  rw [hg]
  go_wp2_with fail
  refine (treeDepths_any _ _ N ps lo1 hi1 lo2 hi2 _ (HN.out.below hw1 hh1) (HP.out.below hw1 hh2) (by omega) (by omega) hg hz2).mono ?_
  rintro e w2 ⟨r, rfl, hr, hb2⟩
  go_wp2_with fail
  go_ret2
  exact ⟨ret_pair (by unfold trRoot; rw [hg]; rfl) (by unfold trOk; rw [hg]; rfl), hw1.trans (hb2.mono (by omega))⟩

set_option maxHeartbeats 1000000 in
theorem TreeDepths_impl (v1 : Value) (N : NetD) (lo1 hi1 : Nat) (v2 : Value) (ps : List Int) (lo2 hi2 : Nat) (w : World) (h1 : Net w lo1 hi1 v1 N) (hh1 : hi1 ≤ w.heap.size) (h2 : IntS w lo2 hi2 v2 ps) (hh2 : hi2 ≤ w.heap.size) (hz1 : N.sz ≤ 1048576) (hz2 : ps.length ≤ 1048576) (o1 : N.Ok) (o2 : ∀ z ∈ ps, I64 z) :
    Calls Try.prog 23 #[v1, v2] w fun e w' => ∃ r, e = .returned (.tuple #[r, .bool (trOk N ps)]) ∧ IntS w' w.heap.size w'.heap.size r (trDepths N ps) ∧ Below w.heap.size w w' := by
  have HN := Lib.hid h1
  have HP := Lib.hid h2
  obtain ⟨A, c, A2, c2, A3, c3, rfl, _⟩ := h1.parts
  obtain ⟨B, d, rfl⟩ := h2.shape
  clear h1 h2 o1 o2
  obtain ⟨W0, HW0⟩ : ∃ W0, Hid (W0 = w.alloc (.cells #[.slice A N.ends.length c, .slice A2 N.ids.length c2, .slice A3 N.inputs.length c3] 31)) := ⟨_, Lib.hid rfl⟩
  have b0 : Box3 W0 w.heap.size 31 (.slice A N.ends.length c) (.slice A2 N.ids.length c2) (.slice A3 N.inputs.length c3) := by rw [HW0.out]; exact Box3.new w 31 _ _ _
  have hb0 : Below w.heap.size w W0 := by rw [HW0.out]; exact below_a1 _ _
  have hs0 : w.heap.size + 1 ≤ W0.heap.size := by rw [HW0.out]; simp
  go_enter Try.func23, Try.ntmps23
  go_wp2_with fail
  rw [← HW0.out]
  clear HW0
  refine (IsNetwork_any _ N lo1 hi1 _ (HN.out.below hb0 hh1) (by omega) hz1).mono ?_
  rintro e w1 ⟨rfl, hb1⟩
  have hs1 := hb1.size
  have b1 := b0.below hb1 (by omega)
  have hw1 := hb0.trans (hb1.mono (by omega))
  clear b0 hb0 hb1
  obtain ⟨k0, k1, k2⟩ := b1.cells
  by_cases hg : N.good = true
  case neg =>
    have hg' : N.good = false := by simpa using hg
    rw [hg']
    go_wp2_with fail
    go_ret2
    exact ⟨_, ret_vb (by unfold trOk; rw [hg']; rfl), by unfold trDepths; rw [hg']; exact IntS.nil _ _ _, hw1⟩
  rw [hg]
  go_wp2_with fail
  refine (treeDepths_any _ _ N ps lo1 hi1 lo2 hi2 _ (HN.out.below hw1 hh1) (HP.out.below hw1 hh2) (by omega) (by omega) hg hz2).mono ?_
  rintro e w2 ⟨r, rfl, hr, hb2⟩
  have RR := Lib.hid hr
  clear hr
  go_wp2_with fail
  go_ret2
  exact ⟨_, ret_vb (by unfold trOk; rw [hg]; rfl), by unfold trDepths; rw [hg]; exact RR.out.mono (by omega) (Nat.le_refl _), hw1.trans (hb2.mono (by omega))⟩

end Go.Proofs.Ytgpbnanidjkliaa
