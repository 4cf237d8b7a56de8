/-
  For all arguments the program's AdjacentClusters returns what the reference's returns, leaves its arguments as they were, and returns memory of its own. No condition.
-/
import Derived.Test.YtkobodoboeoaiaaAdjM
import Derived.Test.YtkobodoboeoaiaaOpenNet
import Derived.Deep.RegionHeld3
namespace Go.Proofs.Ytkobodoboeoaiaa.fnExactAdjacentClusters
open Go.ChangeShapes Go.WideShapes Go.ChangeAt Go.RowKit
set_option linter.unusedVariables false

theorem own : ownKnob Try.prog.godebug = none := by kernel_rfl
theorem laidOut : laidOutB Try.prog = true := by kernel_rfl

set_option maxHeartbeats 8000000 in
set_option maxRecDepth 100000 in
theorem walk (w : World) (v0 : Value) (d0 : NetD) (h0 : Net w 0 w.heap.size v0 d0) (i0 : d0.Ok) (v1 : Value) (d1 : List Int) (h1 : IntS w 0 w.heap.size v1 d1) (i1 : ∀ z ∈ d1, I64 z) :
    Calls Try.prog 3 #[v0, v1] w fun e w' => e = .returned (.bool true) ∧ Below w.heap.size w w' := by
  have H0 := Lib.hid h0
  obtain ⟨A0, c0, A0', c0', A0'', c0'', rfl, _⟩ := h0.parts
  clear h0
  have I0 := Lib.hid i0; clear i0
  have H1 := Lib.hid h1
  obtain ⟨A1, c1, rfl⟩ := h1.shape
  clear h1
  have I1 := Lib.hid i1; clear i1
  have hdl := adOut_cnt d0 d1
  have hcnt0 := NetD.cnt_le d0
  by_cases cond0 : d1.length ≤ 1048576
  case neg =>
    obtain ⟨w1, HW1⟩ : ∃ W, Hid (W = w.alloc (.cells #[.slice A0 d0.ends.length c0, .slice A0' d0.ids.length c0', .slice A0'' d0.inputs.length c0''] 25)) := ⟨_, Lib.hid rfl⟩
    have hb1 : Below w.heap.size w w1 := by rw [HW1.out]; exact below_a1 _ _
    have hz1 : w.heap.size + 1 ≤ w1.heap.size := by rw [HW1.out]; simp
    have hs1 := hb1.size
    have hbw1 := hb1
    have BX1 : Box3 w1 w.heap.size 25 (.slice A0 d0.ends.length c0) (.slice A0' d0.ids.length c0') (.slice A0'' d0.inputs.length c0'') := by rw [HW1.out]; exact Box3.new _ _ _ _ _
    go_enter Try.func3, Try.ntmps3
    obtain ⟨kc0_0, kc0_1, kc0_2⟩ := BX1.cells
    go_wp2_with fail
    rw [← HW1.out]; clear HW1
    clear kc0_0 kc0_1 kc0_2
    go_ret
    exact ⟨rfl, hbw1⟩
  by_cases cond1 : d0.sz ≤ 1048576
  case neg =>
    obtain ⟨w1, HW1⟩ : ∃ W, Hid (W = w.alloc (.cells #[.slice A0 d0.ends.length c0, .slice A0' d0.ids.length c0', .slice A0'' d0.inputs.length c0''] 25)) := ⟨_, Lib.hid rfl⟩
    have hb1 : Below w.heap.size w w1 := by rw [HW1.out]; exact below_a1 _ _
    have hz1 : w.heap.size + 1 ≤ w1.heap.size := by rw [HW1.out]; simp
    have hs1 := hb1.size
    have hbw1 := hb1
    have BX1 : Box3 w1 w.heap.size 25 (.slice A0 d0.ends.length c0) (.slice A0' d0.ids.length c0') (.slice A0'' d0.inputs.length c0'') := by rw [HW1.out]; exact Box3.new _ _ _ _ _
    go_enter Try.func3, Try.ntmps3
    obtain ⟨kc0_0, kc0_1, kc0_2⟩ := BX1.cells
    go_wp2_with fail
    rw [← HW1.out]; clear HW1
    clear kc0_0 kc0_1 kc0_2
    refine (szNetwork_no _ d0 _ _ _ _ (Net.below H0.out hbw1 (Nat.le_refl _)) (by omega) (by omega) (by omega) (by omega)).mono ?_
    rintro e w2 ⟨rfl, hb2⟩
    have hs2 := hb2.size
    have hbw2 := hbw1.trans (hb2.mono (by omega))
    clear hbw1
    have BX1_2 := BX1.below hb2 (by omega); clear BX1
    obtain ⟨kc0_0, kc0_1, kc0_2⟩ := BX1_2.cells
    go_wp2_with fail
    clear kc0_0 kc0_1 kc0_2
    go_ret
    exact ⟨rfl, hbw2⟩
  case pos =>
    obtain ⟨w1, HW1⟩ : ∃ W, Hid (W = w.alloc (.cells #[.slice A0 d0.ends.length c0, .slice A0' d0.ids.length c0', .slice A0'' d0.inputs.length c0''] 25)) := ⟨_, Lib.hid rfl⟩
    have hb1 : Below w.heap.size w w1 := by rw [HW1.out]; exact below_a1 _ _
    have hz1 : w.heap.size + 1 ≤ w1.heap.size := by rw [HW1.out]; simp
    have hs1 := hb1.size
    have hbw1 := hb1
    have BX1 : Box3 w1 w.heap.size 25 (.slice A0 d0.ends.length c0) (.slice A0' d0.ids.length c0') (.slice A0'' d0.inputs.length c0'') := by rw [HW1.out]; exact Box3.new _ _ _ _ _
    go_enter Try.func3, Try.ntmps3
    obtain ⟨kc0_0, kc0_1, kc0_2⟩ := BX1.cells
    go_wp2_with fail
    rw [← HW1.out]; clear HW1
    clear kc0_0 kc0_1 kc0_2
    refine (szNetwork_yes _ d0 _ _ _ _ (Net.below H0.out hbw1 (Nat.le_refl _)) (by omega) (by omega) (by omega)).mono ?_
    rintro e w2 ⟨rfl, hb2⟩
    have hs2 := hb2.size
    have hbw2 := hbw1.trans (hb2.mono (by omega))
    clear hbw1
    have BX1_2 := BX1.below hb2 (by omega); clear BX1
    obtain ⟨kc0_0, kc0_1, kc0_2⟩ := BX1_2.cells
    go_wp2_with fail
    clear kc0_0 kc0_1 kc0_2
    refine (toNetwork_any _ d0 _ _ _ (Net.below H0.out hbw2 (Nat.le_refl _)) (by omega) (by omega)).mono ?_
    rintro e w3 ⟨r3, rfl, hr3, hb3⟩
    have hs3 := hb3.size
    have hbw3 := hbw2.trans (hb3.mono (by omega))
    clear hbw2
    have BX1_3 := BX1_2.below hb3 (by omega); clear BX1_2
    have R3 := Lib.hid hr3
    obtain ⟨Ar3, cr3, Ar3', cr3', Ar3'', cr3'', rfl, _⟩ := hr3.net.parts
    clear hr3
    obtain ⟨kc0_0, kc0_1, kc0_2⟩ := BX1_3.cells
    go_wp2_with fail
    clear kc0_0 kc0_1 kc0_2
    refine (toIntS_any _ d1 _ _ _ (IntS.below H1.out hbw3 (Nat.le_refl _)) (by omega) (by omega)).mono ?_
    rintro e w4 ⟨r4, rfl, hr4, hb4⟩
    have hs4 := hb4.size
    have hbw4 := hbw3.trans (hb4.mono (by omega))
    clear hbw3
    have R3_4 := Lib.hid (NetX.below R3.out hb4 (by omega)); clear R3
    have BX1_4 := BX1_3.below hb4 (by omega); clear BX1_3
    have R4 := Lib.hid hr4
    obtain ⟨Ar4, cr4, rfl⟩ := hr4.shape
    clear hr4
    obtain ⟨kc0_0, kc0_1, kc0_2⟩ := BX1_4.cells
    go_wp2_with fail
    clear kc0_0 kc0_1 kc0_2
    refine (AdjacentClusters_spec _ d0 _ _ _ d1 _ _ _ R3_4.out.net (by omega) R4.out (by omega) (by omega) (by omega) I0.out I1.out).mono ?_
    rintro e w5 ⟨r5_0, rfl, hr5_0, hb5⟩
    have hs5 := hb5.size
    have hbw5 := hbw4.trans (hb5.mono (by omega))
    clear hbw4
    have R3_5 := Lib.hid (NetX.below R3_4.out hb5 (by omega)); clear R3_4
    have R4_5 := Lib.hid (IntS.below R4.out hb5 (by omega)); clear R4
    have BX1_5 := BX1_4.below hb5 (by omega); clear BX1_4
    have R5_0 := Lib.hid hr5_0
    obtain ⟨Ar5_0, cr5_0, rfl⟩ := hr5_0.ss.shape
    clear hr5_0
    clear R3_5
    clear R4_5
    obtain ⟨kc0_0, kc0_1, kc0_2⟩ := BX1_5.cells
    go_wp2_with fail
    clear kc0_0 kc0_1 kc0_2
    refine (toNetwork_any _ d0 _ _ _ (Net.below H0.out hbw5 (Nat.le_refl _)) (by omega) (by omega)).mono ?_
    rintro e w6 ⟨r6, rfl, hr6, hb6⟩
    have hs6 := hb6.size
    have hbw6 := hbw5.trans (hb6.mono (by omega))
    clear hbw5
    have R5_0_6 := Lib.hid (ISSx.below R5_0.out hb6 (by omega)); clear R5_0
    have BX1_6 := BX1_5.below hb6 (by omega); clear BX1_5
    have R6 := Lib.hid hr6
    obtain ⟨Ar6, cr6, Ar6', cr6', Ar6'', cr6'', rfl, _⟩ := hr6.net.parts
    clear hr6
    obtain ⟨w7, HW7⟩ : ∃ W, Hid (W = w6.alloc (.cells #[.slice Ar6 d0.ends.length cr6, .slice Ar6' d0.ids.length cr6', .slice Ar6'' d0.inputs.length cr6''] 32)) := ⟨_, Lib.hid rfl⟩
    have hb7 : Below w6.heap.size w6 w7 := by rw [HW7.out]; exact below_a1 _ _
    have hz7 : w6.heap.size + 1 ≤ w7.heap.size := by rw [HW7.out]; simp
    have hs7 := hb7.size
    have hbw7 := hbw6.trans (hb7.mono (by omega))
    clear hbw6
    have R5_0_7 := Lib.hid (ISSx.below R5_0_6.out hb7 (by omega)); clear R5_0_6
    have R6_7 := Lib.hid (NetX.below R6.out hb7 (by omega)); clear R6
    have BX1_7 := BX1_6.below hb7 (by omega); clear BX1_6
    have BX7 : Box3 w7 w6.heap.size 32 (.slice Ar6 d0.ends.length cr6) (.slice Ar6' d0.ids.length cr6') (.slice Ar6'' d0.inputs.length cr6'') := by rw [HW7.out]; exact Box3.new _ _ _ _ _
    obtain ⟨kc0_0, kc0_1, kc0_2⟩ := BX1_7.cells
    obtain ⟨kc1_0, kc1_1, kc1_2⟩ := BX7.cells
    go_wp2_with fail
    rw [← HW7.out]; clear HW7
    clear kc0_0 kc0_1 kc0_2 kc1_0 kc1_1 kc1_2
    refine (toIntS_any _ d1 _ _ _ (IntS.below H1.out hbw7 (Nat.le_refl _)) (by omega) (by omega)).mono ?_
    rintro e w8 ⟨r8, rfl, hr8, hb8⟩
    have hs8 := hb8.size
    have hbw8 := hbw7.trans (hb8.mono (by omega))
    clear hbw7
    have R5_0_8 := Lib.hid (ISSx.below R5_0_7.out hb8 (by omega)); clear R5_0_7
    have R6_8 := Lib.hid (NetX.below R6_7.out hb8 (by omega)); clear R6_7
    have BX1_8 := BX1_7.below hb8 (by omega); clear BX1_7
    have BX7_8 := BX7.below hb8 (by omega); clear BX7
    have R8 := Lib.hid hr8
    obtain ⟨Ar8, cr8, rfl⟩ := hr8.shape
    clear hr8
    obtain ⟨kc0_0, kc0_1, kc0_2⟩ := BX1_8.cells
    obtain ⟨kc1_0, kc1_1, kc1_2⟩ := BX7_8.cells
    go_wp2_with fail
    clear kc0_0 kc0_1 kc0_2 kc1_0 kc1_1 kc1_2
    refine (AdjacentClusters_impl _ d0 _ _ _ d1 _ _ _ R6_8.out.net (by omega) R8.out (by omega) (by omega) (by omega) I0.out I1.out).mono ?_
    rintro e w9 ⟨r9_0, rfl, hr9_0, hb9⟩
    have hs9 := hb9.size
    have hbw9 := hbw8.trans (hb9.mono (by omega))
    clear hbw8
    have R5_0_9 := Lib.hid (ISSx.below R5_0_8.out hb9 (by omega)); clear R5_0_8
    have R6_9 := Lib.hid (NetX.below R6_8.out hb9 (by omega)); clear R6_8
    have R8_9 := Lib.hid (IntS.below R8.out hb9 (by omega)); clear R8
    have BX1_9 := BX1_8.below hb9 (by omega); clear BX1_8
    have BX7_9 := BX7_8.below hb9 (by omega); clear BX7_8
    have R9_0 := Lib.hid hr9_0
    obtain ⟨Ar9_0, cr9_0, rfl⟩ := hr9_0.ss.shape
    clear hr9_0
    obtain ⟨kc0_0, kc0_1, kc0_2⟩ := BX1_9.cells
    obtain ⟨kc1_0, kc1_1, kc1_2⟩ := BX7_9.cells
    go_wp2_with fail
    clear kc0_0 kc0_1 kc0_2 kc1_0 kc1_1 kc1_2
    refine (eqIntSS_same _ _ (adOut d0 d1) _ _ _ _ _ R9_0.out.ss R5_0_9.out.ss (by omega) (by omega)).mono ?_
    rintro e w10 ⟨rfl, hb10⟩
    have hs10 := hb10.size
    have hbw10 := hbw9.trans (hb10.mono (by omega))
    clear hbw9
    have R5_0_10 := Lib.hid (ISSx.below R5_0_9.out hb10 (by omega)); clear R5_0_9
    have R6_10 := Lib.hid (NetX.below R6_9.out hb10 (by omega)); clear R6_9
    have R8_10 := Lib.hid (IntS.below R8_9.out hb10 (by omega)); clear R8_9
    have R9_0_10 := Lib.hid (ISSx.below R9_0.out hb10 (by omega)); clear R9_0
    have BX1_10 := BX1_9.below hb10 (by omega); clear BX1_9
    have BX7_10 := BX7_9.below hb10 (by omega); clear BX7_9
    obtain ⟨kc0_0, kc0_1, kc0_2⟩ := BX1_10.cells
    obtain ⟨kc1_0, kc1_1, kc1_2⟩ := BX7_10.cells
    go_wp2_with fail
    have hq11 : w10.heap.size ≤ w10.heap.size := Nat.le_refl _
    go_region_held3 (fun w' => w'.cell? ⟨w.heap.size, 0, none⟩ = some (.slice A0 d0.ends.length c0) ∧ w'.cell? ⟨w.heap.size, 1, none⟩ = some (.slice A0' d0.ids.length c0') ∧ w'.cell? ⟨w.heap.size, 2, none⟩ = some (.slice A0'' d0.inputs.length c0'') ∧ w'.cell? ⟨w6.heap.size, 0, none⟩ = some (.slice Ar6 d0.ends.length cr6) ∧ w'.cell? ⟨w6.heap.size, 1, none⟩ = some (.slice Ar6' d0.ids.length cr6') ∧ w'.cell? ⟨w6.heap.size, 2, none⟩ = some (.slice Ar6'' d0.inputs.length cr6''))
      (first | exact ⟨kc0_0, kc0_1, kc0_2, kc1_0, kc1_1, kc1_2⟩ | exact ⟨(hb11.cell (p := ⟨w.heap.size, 0, none⟩) (by show w.heap.size < w10.heap.size; omega)).trans kc0_0, (hb11.cell (p := ⟨w.heap.size, 1, none⟩) (by show w.heap.size < w10.heap.size; omega)).trans kc0_1, (hb11.cell (p := ⟨w.heap.size, 2, none⟩) (by show w.heap.size < w10.heap.size; omega)).trans kc0_2, (hb11.cell (p := ⟨w6.heap.size, 0, none⟩) (by show w6.heap.size < w10.heap.size; omega)).trans kc1_0, (hb11.cell (p := ⟨w6.heap.size, 1, none⟩) (by show w6.heap.size < w10.heap.size; omega)).trans kc1_1, (hb11.cell (p := ⟨w6.heap.size, 2, none⟩) (by show w6.heap.size < w10.heap.size; omega)).trans kc1_2⟩ | exact ⟨kq11_0, kq11_1, kq11_2, kq11_3, kq11_4, kq11_5⟩)
      (first | (go_at_call 14; refine (toNetwork_any _ d0 _ _ _ (Net.below H0.out hbw10.drew (Nat.le_refl _)) (by show _ ≤ w10.heap.size; omega) (by omega)).mono ?_; rintro e w11 ⟨r11, rfl, hr11, hbd11⟩; have hb11 : Below w10.heap.size w10 w11 := (Below.refl _ _).drew.trans hbd11; clear hbd11; have R11 := Lib.hid hr11; obtain ⟨Ar11, cr11, Ar11', cr11', Ar11'', cr11'', rfl, _⟩ := hr11.net.parts; clear hr11) | (go_at_call 18; refine (eqNetwork_same _ _ d0 _ _ _ _ _ (Net.below (R6_10.out.net) hb11 (by show _ ≤ w10.heap.size; omega)) (R11.out.net) (by have := hb11.size; show _ ≤ w11.heap.size; exact Nat.le_trans (by show _ ≤ w10.heap.size; omega) this) (Nat.le_refl _)).mono ?_; rintro e wq11 ⟨rfl, hbq11⟩; have kq11_0 := (hbq11.cell (p := ⟨w.heap.size, 0, none⟩) (by have := hb11.size; show w.heap.size < w11.heap.size; exact Nat.lt_of_lt_of_le (by show w.heap.size < w10.heap.size; omega) this)).trans ((hb11.cell (p := ⟨w.heap.size, 0, none⟩) (by show w.heap.size < w10.heap.size; omega)).trans kc0_0); have kq11_1 := (hbq11.cell (p := ⟨w.heap.size, 1, none⟩) (by have := hb11.size; show w.heap.size < w11.heap.size; exact Nat.lt_of_lt_of_le (by show w.heap.size < w10.heap.size; omega) this)).trans ((hb11.cell (p := ⟨w.heap.size, 1, none⟩) (by show w.heap.size < w10.heap.size; omega)).trans kc0_1); have kq11_2 := (hbq11.cell (p := ⟨w.heap.size, 2, none⟩) (by have := hb11.size; show w.heap.size < w11.heap.size; exact Nat.lt_of_lt_of_le (by show w.heap.size < w10.heap.size; omega) this)).trans ((hb11.cell (p := ⟨w.heap.size, 2, none⟩) (by show w.heap.size < w10.heap.size; omega)).trans kc0_2); have kq11_3 := (hbq11.cell (p := ⟨w6.heap.size, 0, none⟩) (by have := hb11.size; show w6.heap.size < w11.heap.size; exact Nat.lt_of_lt_of_le (by show w6.heap.size < w10.heap.size; omega) this)).trans ((hb11.cell (p := ⟨w6.heap.size, 0, none⟩) (by show w6.heap.size < w10.heap.size; omega)).trans kc1_0); have kq11_4 := (hbq11.cell (p := ⟨w6.heap.size, 1, none⟩) (by have := hb11.size; show w6.heap.size < w11.heap.size; exact Nat.lt_of_lt_of_le (by show w6.heap.size < w10.heap.size; omega) this)).trans ((hb11.cell (p := ⟨w6.heap.size, 1, none⟩) (by show w6.heap.size < w10.heap.size; omega)).trans kc1_1); have kq11_5 := (hbq11.cell (p := ⟨w6.heap.size, 2, none⟩) (by have := hb11.size; show w6.heap.size < w11.heap.size; exact Nat.lt_of_lt_of_le (by show w6.heap.size < w10.heap.size; omega) this)).trans ((hb11.cell (p := ⟨w6.heap.size, 2, none⟩) (by show w6.heap.size < w10.heap.size; omega)).trans kc1_2)))
    clear kc0_0 kc0_1 kc0_2 kc1_0 kc1_1 kc1_2 hq11 kq11_0 kq11_1 kq11_2 kq11_3 kq11_4 kq11_5
    clear R11
    have hbz11 : Below w10.heap.size w10 wq11 := Below.trans hb11 (hbq11.mono hb11.size)
    clear hb11 hbq11
    have hs11 := hbz11.size
    have hbw11 := hbw10.trans (hbz11.mono (by omega))
    clear hbw10
    have R5_0_11 := Lib.hid (ISSx.below R5_0_10.out hbz11 (by omega)); clear R5_0_10
    have R6_11 := Lib.hid (NetX.below R6_10.out hbz11 (by omega)); clear R6_10
    have R8_11 := Lib.hid (IntS.below R8_10.out hbz11 (by omega)); clear R8_10
    have R9_0_11 := Lib.hid (ISSx.below R9_0_10.out hbz11 (by omega)); clear R9_0_10
    have BX1_11 := BX1_10.below hbz11 (by omega); clear BX1_10
    have BX7_11 := BX7_10.below hbz11 (by omega); clear BX7_10
    obtain ⟨kc0_0, kc0_1, kc0_2⟩ := BX1_11.cells
    obtain ⟨kc1_0, kc1_1, kc1_2⟩ := BX7_11.cells
    go_wp2_with fail
    clear kc0_0 kc0_1 kc0_2 kc1_0 kc1_1 kc1_2
    refine (toIntS_any _ d1 _ _ _ (IntS.below H1.out hbw11 (Nat.le_refl _)) (by omega) (by omega)).mono ?_
    rintro e w12 ⟨r12, rfl, hr12, hb12⟩
    have hs12 := hb12.size
    have hbw12 := hbw11.trans (hb12.mono (by omega))
    clear hbw11
    have R5_0_12 := Lib.hid (ISSx.below R5_0_11.out hb12 (by omega)); clear R5_0_11
    have R6_12 := Lib.hid (NetX.below R6_11.out hb12 (by omega)); clear R6_11
    have R8_12 := Lib.hid (IntS.below R8_11.out hb12 (by omega)); clear R8_11
    have R9_0_12 := Lib.hid (ISSx.below R9_0_11.out hb12 (by omega)); clear R9_0_11
    have BX1_12 := BX1_11.below hb12 (by omega); clear BX1_11
    have BX7_12 := BX7_11.below hb12 (by omega); clear BX7_11
    have R12 := Lib.hid hr12
    obtain ⟨Ar12, cr12, rfl⟩ := hr12.shape
    clear hr12
    obtain ⟨kc0_0, kc0_1, kc0_2⟩ := BX1_12.cells
    obtain ⟨kc1_0, kc1_1, kc1_2⟩ := BX7_12.cells
    go_wp2_with fail
    clear kc0_0 kc0_1 kc0_2 kc1_0 kc1_1 kc1_2
    refine (eqIntS_same _ _ d1 _ _ _ _ _ R8_12.out R12.out (by omega) (by omega)).mono ?_
    rintro e w13 ⟨rfl, hb13⟩
    have hs13 := hb13.size
    have hbw13 := hbw12.trans (hb13.mono (by omega))
    clear hbw12
    have R5_0_13 := Lib.hid (ISSx.below R5_0_12.out hb13 (by omega)); clear R5_0_12
    have R6_13 := Lib.hid (NetX.below R6_12.out hb13 (by omega)); clear R6_12
    have R8_13 := Lib.hid (IntS.below R8_12.out hb13 (by omega)); clear R8_12
    have R9_0_13 := Lib.hid (ISSx.below R9_0_12.out hb13 (by omega)); clear R9_0_12
    have R12_13 := Lib.hid (IntS.below R12.out hb13 (by omega)); clear R12
    have BX1_13 := BX1_12.below hb13 (by omega); clear BX1_12
    have BX7_13 := BX7_12.below hb13 (by omega); clear BX7_12
    clear R12_13
    obtain ⟨kc0_0, kc0_1, kc0_2⟩ := BX1_13.cells
    obtain ⟨kc1_0, kc1_1, kc1_2⟩ := BX7_13.cells
    go_wp2_with fail
    clear kc0_0 kc0_1 kc0_2 kc1_0 kc1_1 kc1_2
    refine (markNetwork_any _ d0 _ _ _ _ R6_13.out (by omega) (by omega) (by omega) (by omega)).mono ?_
    rintro e w14 ⟨rfl, hr14, ht14⟩
    have hs14 := ht14.size
    have hbw14 := hbw13.trans ((ht14.below (by omega)).mono (by omega))
    clear hbw13
    have R5_0_14 := Lib.hid (ISSx.turned R5_0_13.out ht14 (by omega) (by omega)); clear R5_0_13
    have R8_14 := Lib.hid (IntS.turned R8_13.out ht14 (by omega) (by omega)); clear R8_13
    have R9_0_14 := Lib.hid (ISSx.turned R9_0_13.out ht14 (by omega) (by omega)); clear R9_0_13
    have BX1_14 : Box3 w14 w.heap.size 25 (.slice A0 d0.ends.length c0) (.slice A0' d0.ids.length c0') (.slice A0'' d0.inputs.length c0'') := (ht14.block _ (by omega) (by omega)).trans BX1_13; clear BX1_13
    have BX7_14 : Box3 w14 w6.heap.size 32 (.slice Ar6 d0.ends.length cr6) (.slice Ar6' d0.ids.length cr6') (.slice Ar6'' d0.inputs.length cr6'') := (ht14.block _ (by omega) (by omega)).trans BX7_13; clear BX7_13
    clear R6_13
    have R6_14 := Lib.hid hr14; clear hr14
    obtain ⟨kc0_0, kc0_1, kc0_2⟩ := BX1_14.cells
    obtain ⟨kc1_0, kc1_1, kc1_2⟩ := BX7_14.cells
    go_wp2_with fail
    clear kc0_0 kc0_1 kc0_2 kc1_0 kc1_1 kc1_2
    refine (markIntS_any _ d1 _ _ _ _ R8_14.out (by omega) (by omega) (by omega) (by omega)).mono ?_
    rintro e w15 ⟨rfl, hr15, hg15, hzz15⟩
    have ht15 := Turned.of_row R8_14.out hg15; clear hg15 hzz15
    have hs15 := ht15.size
    have hbw15 := hbw14.trans ((ht15.below (by omega)).mono (by omega))
    clear hbw14
    have R5_0_15 := Lib.hid (ISSx.turned R5_0_14.out ht15 (by omega) (by omega)); clear R5_0_14
    have R6_15 := Lib.hid (NetX.turned R6_14.out ht15 (by omega) (by omega)); clear R6_14
    have R9_0_15 := Lib.hid (ISSx.turned R9_0_14.out ht15 (by omega) (by omega)); clear R9_0_14
    have BX1_15 : Box3 w15 w.heap.size 25 (.slice A0 d0.ends.length c0) (.slice A0' d0.ids.length c0') (.slice A0'' d0.inputs.length c0'') := (ht15.block _ (by omega) (by omega)).trans BX1_14; clear BX1_14
    have BX7_15 : Box3 w15 w6.heap.size 32 (.slice Ar6 d0.ends.length cr6) (.slice Ar6' d0.ids.length cr6') (.slice Ar6'' d0.inputs.length cr6'') := (ht15.block _ (by omega) (by omega)).trans BX7_14; clear BX7_14
    clear R8_14
    have R8_15 := Lib.hid hr15; clear hr15
    obtain ⟨kc0_0, kc0_1, kc0_2⟩ := BX1_15.cells
    obtain ⟨kc1_0, kc1_1, kc1_2⟩ := BX7_15.cells
    go_wp2_with fail
    clear kc0_0 kc0_1 kc0_2 kc1_0 kc1_1 kc1_2
    refine (eqIntSS_same _ _ (adOut d0 d1) _ _ _ _ _ R9_0_15.out.ss R5_0_15.out.ss (by omega) (by omega)).mono ?_
    rintro e w16 ⟨rfl, hb16⟩
    have hs16 := hb16.size
    have hbw16 := hbw15.trans (hb16.mono (by omega))
    clear hbw15
    have R5_0_16 := Lib.hid (ISSx.below R5_0_15.out hb16 (by omega)); clear R5_0_15
    have R6_16 := Lib.hid (NetX.below R6_15.out hb16 (by omega)); clear R6_15
    have R8_16 := Lib.hid (IntS.below R8_15.out hb16 (by omega)); clear R8_15
    have R9_0_16 := Lib.hid (ISSx.below R9_0_15.out hb16 (by omega)); clear R9_0_15
    have BX1_16 := BX1_15.below hb16 (by omega); clear BX1_15
    have BX7_16 := BX7_15.below hb16 (by omega); clear BX7_15
    obtain ⟨kc0_0, kc0_1, kc0_2⟩ := BX1_16.cells
    obtain ⟨kc1_0, kc1_1, kc1_2⟩ := BX7_16.cells
    go_wp2_with fail
    clear kc0_0 kc0_1 kc0_2 kc1_0 kc1_1 kc1_2
    refine (markIntSS_any _ (adOut d0 d1) _ _ _ _ R9_0_16.out (by omega) (by omega) (by omega) (by omega)).mono ?_
    rintro e w17 ⟨rfl, hr17, ht17⟩
    have hs17 := ht17.size
    have hbw17 := hbw16.trans ((ht17.below (by omega)).mono (by omega))
    clear hbw16
    have R5_0_17 := Lib.hid (ISSx.turned R5_0_16.out ht17 (by omega) (by omega)); clear R5_0_16
    have R6_17 := Lib.hid (NetX.turned R6_16.out ht17 (by omega) (by omega)); clear R6_16
    have R8_17 := Lib.hid (IntS.turned R8_16.out ht17 (by omega) (by omega)); clear R8_16
    have BX1_17 : Box3 w17 w.heap.size 25 (.slice A0 d0.ends.length c0) (.slice A0' d0.ids.length c0') (.slice A0'' d0.inputs.length c0'') := (ht17.block _ (by omega) (by omega)).trans BX1_16; clear BX1_16
    have BX7_17 : Box3 w17 w6.heap.size 32 (.slice Ar6 d0.ends.length cr6) (.slice Ar6' d0.ids.length cr6') (.slice Ar6'' d0.inputs.length cr6'') := (ht17.block _ (by omega) (by omega)).trans BX7_16; clear BX7_16
    clear R9_0_16
    have R9_0_17 := Lib.hid hr17; clear hr17
    obtain ⟨kc0_0, kc0_1, kc0_2⟩ := BX1_17.cells
    obtain ⟨kc1_0, kc1_1, kc1_2⟩ := BX7_17.cells
    go_wp2_with fail
    clear kc0_0 kc0_1 kc0_2 kc1_0 kc1_1 kc1_2
    refine (heldIntSS_yes _ (adOut d0 d1) _ _ _ _ R9_0_17.out.ss (by omega) (by omega) (by omega) (by omega)).mono ?_
    rintro e w18 ⟨rfl, hb18⟩
    have hs18 := hb18.size
    have hbw18 := hbw17.trans (hb18.mono (by omega))
    clear hbw17
    have R5_0_18 := Lib.hid (ISSx.below R5_0_17.out hb18 (by omega)); clear R5_0_17
    have R6_18 := Lib.hid (NetX.below R6_17.out hb18 (by omega)); clear R6_17
    have R8_18 := Lib.hid (IntS.below R8_17.out hb18 (by omega)); clear R8_17
    have R9_0_18 := Lib.hid (ISSx.below R9_0_17.out hb18 (by omega)); clear R9_0_17
    have BX1_18 := BX1_17.below hb18 (by omega); clear BX1_17
    have BX7_18 := BX7_17.below hb18 (by omega); clear BX7_17
    obtain ⟨kc0_0, kc0_1, kc0_2⟩ := BX1_18.cells
    obtain ⟨kc1_0, kc1_1, kc1_2⟩ := BX7_18.cells
    go_wp2_with fail
    clear kc0_0 kc0_1 kc0_2 kc1_0 kc1_1 kc1_2
    refine (toNetwork_any _ d0 _ _ _ (Net.below H0.out hbw18 (Nat.le_refl _)) (by omega) (by omega)).mono ?_
    rintro e w19 ⟨r19, rfl, hr19, hb19⟩
    have hs19 := hb19.size
    have hbw19 := hbw18.trans (hb19.mono (by omega))
    clear hbw18
    have R5_0_19 := Lib.hid (ISSx.below R5_0_18.out hb19 (by omega)); clear R5_0_18
    have R6_19 := Lib.hid (NetX.below R6_18.out hb19 (by omega)); clear R6_18
    have R8_19 := Lib.hid (IntS.below R8_18.out hb19 (by omega)); clear R8_18
    have R9_0_19 := Lib.hid (ISSx.below R9_0_18.out hb19 (by omega)); clear R9_0_18
    have BX1_19 := BX1_18.below hb19 (by omega); clear BX1_18
    have BX7_19 := BX7_18.below hb19 (by omega); clear BX7_18
    have R19 := Lib.hid hr19
    obtain ⟨Ar19, cr19, Ar19', cr19', Ar19'', cr19'', rfl, _⟩ := hr19.net.parts
    clear hr19
    obtain ⟨kc0_0, kc0_1, kc0_2⟩ := BX1_19.cells
    obtain ⟨kc1_0, kc1_1, kc1_2⟩ := BX7_19.cells
    go_wp2_with fail
    clear kc0_0 kc0_1 kc0_2 kc1_0 kc1_1 kc1_2
    refine (toIntS_any _ d1 _ _ _ (IntS.below H1.out hbw19 (Nat.le_refl _)) (by omega) (by omega)).mono ?_
    rintro e w20 ⟨r20, rfl, hr20, hb20⟩
    have hs20 := hb20.size
    have hbw20 := hbw19.trans (hb20.mono (by omega))
    clear hbw19
    have R5_0_20 := Lib.hid (ISSx.below R5_0_19.out hb20 (by omega)); clear R5_0_19
    have R6_20 := Lib.hid (NetX.below R6_19.out hb20 (by omega)); clear R6_19
    have R8_20 := Lib.hid (IntS.below R8_19.out hb20 (by omega)); clear R8_19
    have R9_0_20 := Lib.hid (ISSx.below R9_0_19.out hb20 (by omega)); clear R9_0_19
    have R19_20 := Lib.hid (NetX.below R19.out hb20 (by omega)); clear R19
    have BX1_20 := BX1_19.below hb20 (by omega); clear BX1_19
    have BX7_20 := BX7_19.below hb20 (by omega); clear BX7_19
    have R20 := Lib.hid hr20
    obtain ⟨Ar20, cr20, rfl⟩ := hr20.shape
    clear hr20
    obtain ⟨kc0_0, kc0_1, kc0_2⟩ := BX1_20.cells
    obtain ⟨kc1_0, kc1_1, kc1_2⟩ := BX7_20.cells
    go_wp2_with fail
    clear kc0_0 kc0_1 kc0_2 kc1_0 kc1_1 kc1_2
    refine (AdjacentClusters_impl _ d0 _ _ _ d1 _ _ _ R19_20.out.net (by omega) R20.out (by omega) (by omega) (by omega) I0.out I1.out).mono ?_
    rintro e w21 ⟨r21_0, rfl, hr21_0, hb21⟩
    have hs21 := hb21.size
    have hbw21 := hbw20.trans (hb21.mono (by omega))
    clear hbw20
    have R5_0_21 := Lib.hid (ISSx.below R5_0_20.out hb21 (by omega)); clear R5_0_20
    have R6_21 := Lib.hid (NetX.below R6_20.out hb21 (by omega)); clear R6_20
    have R8_21 := Lib.hid (IntS.below R8_20.out hb21 (by omega)); clear R8_20
    have R9_0_21 := Lib.hid (ISSx.below R9_0_20.out hb21 (by omega)); clear R9_0_20
    have R19_21 := Lib.hid (NetX.below R19_20.out hb21 (by omega)); clear R19_20
    have R20_21 := Lib.hid (IntS.below R20.out hb21 (by omega)); clear R20
    have BX1_21 := BX1_20.below hb21 (by omega); clear BX1_20
    have BX7_21 := BX7_20.below hb21 (by omega); clear BX7_20
    have R21_0 := Lib.hid hr21_0
    obtain ⟨Ar21_0, cr21_0, rfl⟩ := hr21_0.ss.shape
    clear hr21_0
    clear R19_21
    clear R20_21
    obtain ⟨kc0_0, kc0_1, kc0_2⟩ := BX1_21.cells
    obtain ⟨kc1_0, kc1_1, kc1_2⟩ := BX7_21.cells
    go_wp2_with fail
    clear kc0_0 kc0_1 kc0_2 kc1_0 kc1_1 kc1_2
    refine (eqIntSS_same _ _ (adOut d0 d1) _ _ _ _ _ R21_0.out.ss R5_0_21.out.ss (by omega) (by omega)).mono ?_
    rintro e w22 ⟨rfl, hb22⟩
    have hs22 := hb22.size
    have hbw22 := hbw21.trans (hb22.mono (by omega))
    clear hbw21
    have R5_0_22 := Lib.hid (ISSx.below R5_0_21.out hb22 (by omega)); clear R5_0_21
    have R6_22 := Lib.hid (NetX.below R6_21.out hb22 (by omega)); clear R6_21
    have R8_22 := Lib.hid (IntS.below R8_21.out hb22 (by omega)); clear R8_21
    have R9_0_22 := Lib.hid (ISSx.below R9_0_21.out hb22 (by omega)); clear R9_0_21
    have R21_0_22 := Lib.hid (ISSx.below R21_0.out hb22 (by omega)); clear R21_0
    have BX1_22 := BX1_21.below hb22 (by omega); clear BX1_21
    have BX7_22 := BX7_21.below hb22 (by omega); clear BX7_21
    obtain ⟨kc0_0, kc0_1, kc0_2⟩ := BX1_22.cells
    obtain ⟨kc1_0, kc1_1, kc1_2⟩ := BX7_22.cells
    go_wp2_with fail
    clear kc0_0 kc0_1 kc0_2 kc1_0 kc1_1 kc1_2
    refine (heldIntSS_yes _ (adOut d0 d1) _ _ _ _ R9_0_22.out.ss (by omega) (by omega) (by omega) (by omega)).mono ?_
    rintro e w23 ⟨rfl, hb23⟩
    have hs23 := hb23.size
    have hbw23 := hbw22.trans (hb23.mono (by omega))
    clear hbw22
    have R5_0_23 := Lib.hid (ISSx.below R5_0_22.out hb23 (by omega)); clear R5_0_22
    have R6_23 := Lib.hid (NetX.below R6_22.out hb23 (by omega)); clear R6_22
    have R8_23 := Lib.hid (IntS.below R8_22.out hb23 (by omega)); clear R8_22
    have R9_0_23 := Lib.hid (ISSx.below R9_0_22.out hb23 (by omega)); clear R9_0_22
    have R21_0_23 := Lib.hid (ISSx.below R21_0_22.out hb23 (by omega)); clear R21_0_22
    have BX1_23 := BX1_22.below hb23 (by omega); clear BX1_22
    have BX7_23 := BX7_22.below hb23 (by omega); clear BX7_22
    go_wp2_with fail
    go_ret
    exact ⟨rfl, hbw23⟩
end Go.Proofs.Ytkobodoboeoaiaa.fnExactAdjacentClusters
