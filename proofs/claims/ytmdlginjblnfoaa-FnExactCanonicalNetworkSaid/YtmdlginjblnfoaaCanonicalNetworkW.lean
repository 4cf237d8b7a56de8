/-
  For all arguments the program's CanonicalNetwork returns what the reference's returns, leaves its arguments as they were, and returns memory of its own. No condition.
-/
import Derived.Test.YtmdlginjblnfoaaCnM
import Derived.Test.YtmdlginjblnfoaaOpenNet
import Derived.Deep.RegionHeld3
namespace Go.Proofs.Ytmdlginjblnfoaa.fnExactCanonicalNetwork
open Go.ChangeShapes Go.WideShapes Go.ChangeAt Go.RowKit
set_option linter.unusedVariables false

theorem own : ownKnob Try.prog.godebug = none := by kernel_rfl
theorem laidOut : laidOutB Try.prog = true := by kernel_rfl

set_option maxHeartbeats 8000000 in
set_option maxRecDepth 100000 in
theorem walk (w : World) (v0 : Value) (d0 : NetD) (h0 : Net w 0 w.heap.size v0 d0) (i0 : d0.Ok) :
    Calls Try.prog 4 #[v0] w fun e w' => e = .returned (.bool true) ∧ Below w.heap.size w w' := by
  have H0 := Lib.hid h0
  obtain ⟨A0, c0, A0', c0', A0'', c0'', rfl, _⟩ := h0.parts
  clear h0
  have I0 := Lib.hid i0; clear i0
  obtain ⟨hdl, hdz⟩ := cnOut_cnt d0
  have hcnt0 := NetD.cnt_le d0
  by_cases cond0 : d0.sz ≤ 1048576
  case neg =>
    obtain ⟨w1, HW1⟩ : ∃ W, Hid (W = w.alloc (.cells #[.slice A0 d0.ends.length c0, .slice A0' d0.ids.length c0', .slice A0'' d0.inputs.length c0''] 25)) := ⟨_, Lib.hid rfl⟩
    have hb1 : Below w.heap.size w w1 := by rw [HW1.out]; exact below_a1 _ _
    have hz1 : w.heap.size + 1 ≤ w1.heap.size := by rw [HW1.out]; simp
    have hs1 := hb1.size
    have hbw1 := hb1
    have BX1 : Box3 w1 w.heap.size 25 (.slice A0 d0.ends.length c0) (.slice A0' d0.ids.length c0') (.slice A0'' d0.inputs.length c0'') := by rw [HW1.out]; exact Box3.new _ _ _ _ _
    go_enter Try.func4, Try.ntmps4
    obtain ⟨kc0_0, kc0_1, kc0_2⟩ := BX1.cells
    go_wp2_with fail
    rw [← HW1.out]; clear HW1
    clear kc0_0 kc0_1 kc0_2
    refine (szNetwork_no _ d0 _ _ _ _ (Net.below H0.out hbw1 (Nat.le_refl _)) (by omega) (by omega) (by omega) (by omega)).mono ?_
    rintro e w2 ⟨rfl, hb2⟩
    have hs2 := hb2.size
    have hbw2 := hbw1.trans (hb2.mono (by omega))
    clear hbw1
    have BX1_2 := BX1.below hb2 (by omega); clear BX1
    obtain ⟨kc0_0, kc0_1, kc0_2⟩ := BX1_2.cells
    go_wp2_with fail
    clear kc0_0 kc0_1 kc0_2
    go_ret
    exact ⟨rfl, hbw2⟩
  case pos =>
    obtain ⟨w1, HW1⟩ : ∃ W, Hid (W = w.alloc (.cells #[.slice A0 d0.ends.length c0, .slice A0' d0.ids.length c0', .slice A0'' d0.inputs.length c0''] 25)) := ⟨_, Lib.hid rfl⟩
    have hb1 : Below w.heap.size w w1 := by rw [HW1.out]; exact below_a1 _ _
    have hz1 : w.heap.size + 1 ≤ w1.heap.size := by rw [HW1.out]; simp
    have hs1 := hb1.size
    have hbw1 := hb1
    have BX1 : Box3 w1 w.heap.size 25 (.slice A0 d0.ends.length c0) (.slice A0' d0.ids.length c0') (.slice A0'' d0.inputs.length c0'') := by rw [HW1.out]; exact Box3.new _ _ _ _ _
    go_enter Try.func4, Try.ntmps4
    obtain ⟨kc0_0, kc0_1, kc0_2⟩ := BX1.cells
    go_wp2_with fail
    rw [← HW1.out]; clear HW1
    clear kc0_0 kc0_1 kc0_2
    refine (szNetwork_yes _ d0 _ _ _ _ (Net.below H0.out hbw1 (Nat.le_refl _)) (by omega) (by omega) (by omega)).mono ?_
    rintro e w2 ⟨rfl, hb2⟩
    have hs2 := hb2.size
    have hbw2 := hbw1.trans (hb2.mono (by omega))
    clear hbw1
    have BX1_2 := BX1.below hb2 (by omega); clear BX1
    obtain ⟨kc0_0, kc0_1, kc0_2⟩ := BX1_2.cells
    go_wp2_with fail
    clear kc0_0 kc0_1 kc0_2
    refine (toNetwork_any _ d0 _ _ _ (Net.below H0.out hbw2 (Nat.le_refl _)) (by omega) (by omega)).mono ?_
    rintro e w3 ⟨r3, rfl, hr3, hb3⟩
    have hs3 := hb3.size
    have hbw3 := hbw2.trans (hb3.mono (by omega))
    clear hbw2
    have BX1_3 := BX1_2.below hb3 (by omega); clear BX1_2
    have R3 := Lib.hid hr3
    obtain ⟨Ar3, cr3, Ar3', cr3', Ar3'', cr3'', rfl, _⟩ := hr3.net.parts
    clear hr3
    obtain ⟨kc0_0, kc0_1, kc0_2⟩ := BX1_3.cells
    go_wp2_with fail
    clear kc0_0 kc0_1 kc0_2
    refine (CanonicalNetwork_spec _ d0 _ _ _ R3.out.net (by omega) (by omega) I0.out).mono ?_
    rintro e w4 ⟨r4_0, rfl, hr4_0, hb4⟩
    have hs4 := hb4.size
    have hbw4 := hbw3.trans (hb4.mono (by omega))
    clear hbw3
    have R3_4 := Lib.hid (NetX.below R3.out hb4 (by omega)); clear R3
    have BX1_4 := BX1_3.below hb4 (by omega); clear BX1_3
    have R4_0 := Lib.hid hr4_0
    obtain ⟨Ar4_0, cr4_0, Ar4_0', cr4_0', Ar4_0'', cr4_0'', rfl, _⟩ := hr4_0.net.parts
    clear hr4_0
    obtain ⟨w5, HW5⟩ : ∃ W, Hid (W = w4.alloc (.cells #[.slice Ar4_0 (cnOut d0).ends.length cr4_0, .slice Ar4_0' (cnOut d0).ids.length cr4_0', .slice Ar4_0'' (cnOut d0).inputs.length cr4_0''] 31)) := ⟨_, Lib.hid rfl⟩
    have hb5 : Below w4.heap.size w4 w5 := by rw [HW5.out]; exact below_a1 _ _
    have hz5 : w4.heap.size + 1 ≤ w5.heap.size := by rw [HW5.out]; simp
    have hs5 := hb5.size
    have hbw5 := hbw4.trans (hb5.mono (by omega))
    clear hbw4
    have R3_5 := Lib.hid (NetX.below R3_4.out hb5 (by omega)); clear R3_4
    have R4_0_5 := Lib.hid (NetY.below R4_0.out hb5 (by omega)); clear R4_0
    have BX1_5 := BX1_4.below hb5 (by omega); clear BX1_4
    have BX5 : Box3 w5 w4.heap.size 31 (.slice Ar4_0 (cnOut d0).ends.length cr4_0) (.slice Ar4_0' (cnOut d0).ids.length cr4_0') (.slice Ar4_0'' (cnOut d0).inputs.length cr4_0'') := by rw [HW5.out]; exact Box3.new _ _ _ _ _
    clear R3_5
    obtain ⟨kc0_0, kc0_1, kc0_2⟩ := BX1_5.cells
    obtain ⟨kc1_0, kc1_1, kc1_2⟩ := BX5.cells
    have kc0_0p := kc0_0; rw [HW5.out] at kc0_0p
    have kc0_1p := kc0_1; rw [HW5.out] at kc0_1p
    have kc0_2p := kc0_2; rw [HW5.out] at kc0_2p
    have kc1_0p := kc1_0; rw [HW5.out] at kc1_0p
    have kc1_1p := kc1_1; rw [HW5.out] at kc1_1p
    have kc1_2p := kc1_2; rw [HW5.out] at kc1_2p
    go_wp2_with fail
    rw [← HW5.out]; clear HW5
    clear kc0_0 kc0_1 kc0_2 kc1_0 kc1_1 kc1_2 kc0_0p kc0_1p kc0_2p kc1_0p kc1_1p kc1_2p
    refine (toNetwork_any _ d0 _ _ _ (Net.below H0.out hbw5 (Nat.le_refl _)) (by omega) (by omega)).mono ?_
    rintro e w6 ⟨r6, rfl, hr6, hb6⟩
    have hs6 := hb6.size
    have hbw6 := hbw5.trans (hb6.mono (by omega))
    clear hbw5
    have R4_0_6 := Lib.hid (NetY.below R4_0_5.out hb6 (by omega)); clear R4_0_5
    have BX1_6 := BX1_5.below hb6 (by omega); clear BX1_5
    have BX5_6 := BX5.below hb6 (by omega); clear BX5
    have R6 := Lib.hid hr6
    obtain ⟨Ar6, cr6, Ar6', cr6', Ar6'', cr6'', rfl, _⟩ := hr6.net.parts
    clear hr6
    obtain ⟨w7, HW7⟩ : ∃ W, Hid (W = w6.alloc (.cells #[.slice Ar6 d0.ends.length cr6, .slice Ar6' d0.ids.length cr6', .slice Ar6'' d0.inputs.length cr6''] 31)) := ⟨_, Lib.hid rfl⟩
    have hb7 : Below w6.heap.size w6 w7 := by rw [HW7.out]; exact below_a1 _ _
    have hz7 : w6.heap.size + 1 ≤ w7.heap.size := by rw [HW7.out]; simp
    have hs7 := hb7.size
    have hbw7 := hbw6.trans (hb7.mono (by omega))
    clear hbw6
    have R4_0_7 := Lib.hid (NetY.below R4_0_6.out hb7 (by omega)); clear R4_0_6
    have R6_7 := Lib.hid (NetX.below R6.out hb7 (by omega)); clear R6
    have BX1_7 := BX1_6.below hb7 (by omega); clear BX1_6
    have BX5_7 := BX5_6.below hb7 (by omega); clear BX5_6
    have BX7 : Box3 w7 w6.heap.size 31 (.slice Ar6 d0.ends.length cr6) (.slice Ar6' d0.ids.length cr6') (.slice Ar6'' d0.inputs.length cr6'') := by rw [HW7.out]; exact Box3.new _ _ _ _ _
    obtain ⟨kc0_0, kc0_1, kc0_2⟩ := BX1_7.cells
    obtain ⟨kc1_0, kc1_1, kc1_2⟩ := BX5_7.cells
    obtain ⟨kc2_0, kc2_1, kc2_2⟩ := BX7.cells
    have kc0_0p := kc0_0; rw [HW7.out] at kc0_0p
    have kc0_1p := kc0_1; rw [HW7.out] at kc0_1p
    have kc0_2p := kc0_2; rw [HW7.out] at kc0_2p
    have kc1_0p := kc1_0; rw [HW7.out] at kc1_0p
    have kc1_1p := kc1_1; rw [HW7.out] at kc1_1p
    have kc1_2p := kc1_2; rw [HW7.out] at kc1_2p
    have kc2_0p := kc2_0; rw [HW7.out] at kc2_0p
    have kc2_1p := kc2_1; rw [HW7.out] at kc2_1p
    have kc2_2p := kc2_2; rw [HW7.out] at kc2_2p
    go_wp2_with fail
    rw [← HW7.out]; clear HW7
    clear kc0_0 kc0_1 kc0_2 kc1_0 kc1_1 kc1_2 kc2_0 kc2_1 kc2_2 kc0_0p kc0_1p kc0_2p kc1_0p kc1_1p kc1_2p kc2_0p kc2_1p kc2_2p
    refine (CanonicalNetwork_impl _ d0 _ _ _ R6_7.out.net (by omega) (by omega) I0.out).mono ?_
    rintro e w8 ⟨r8_0, rfl, hr8_0, hb8⟩
    have hs8 := hb8.size
    have hbw8 := hbw7.trans (hb8.mono (by omega))
    clear hbw7
    have R4_0_8 := Lib.hid (NetY.below R4_0_7.out hb8 (by omega)); clear R4_0_7
    have R6_8 := Lib.hid (NetX.below R6_7.out hb8 (by omega)); clear R6_7
    have BX1_8 := BX1_7.below hb8 (by omega); clear BX1_7
    have BX5_8 := BX5_7.below hb8 (by omega); clear BX5_7
    have BX7_8 := BX7.below hb8 (by omega); clear BX7
    have R8_0 := Lib.hid hr8_0
    obtain ⟨Ar8_0, cr8_0, Ar8_0', cr8_0', Ar8_0'', cr8_0'', rfl, _⟩ := hr8_0.net.parts
    clear hr8_0
    obtain ⟨w9, HW9⟩ : ∃ W, Hid (W = w8.alloc (.cells #[.slice Ar8_0 (cnOut d0).ends.length cr8_0, .slice Ar8_0' (cnOut d0).ids.length cr8_0', .slice Ar8_0'' (cnOut d0).inputs.length cr8_0''] 31)) := ⟨_, Lib.hid rfl⟩
    have hb9 : Below w8.heap.size w8 w9 := by rw [HW9.out]; exact below_a1 _ _
    have hz9 : w8.heap.size + 1 ≤ w9.heap.size := by rw [HW9.out]; simp
    have hs9 := hb9.size
    have hbw9 := hbw8.trans (hb9.mono (by omega))
    clear hbw8
    have R4_0_9 := Lib.hid (NetY.below R4_0_8.out hb9 (by omega)); clear R4_0_8
    have R6_9 := Lib.hid (NetX.below R6_8.out hb9 (by omega)); clear R6_8
    have R8_0_9 := Lib.hid (NetY.below R8_0.out hb9 (by omega)); clear R8_0
    have BX1_9 := BX1_8.below hb9 (by omega); clear BX1_8
    have BX5_9 := BX5_8.below hb9 (by omega); clear BX5_8
    have BX7_9 := BX7_8.below hb9 (by omega); clear BX7_8
    have BX9 : Box3 w9 w8.heap.size 31 (.slice Ar8_0 (cnOut d0).ends.length cr8_0) (.slice Ar8_0' (cnOut d0).ids.length cr8_0') (.slice Ar8_0'' (cnOut d0).inputs.length cr8_0'') := by rw [HW9.out]; exact Box3.new _ _ _ _ _
    obtain ⟨kc0_0, kc0_1, kc0_2⟩ := BX1_9.cells
    obtain ⟨kc1_0, kc1_1, kc1_2⟩ := BX5_9.cells
    obtain ⟨kc2_0, kc2_1, kc2_2⟩ := BX7_9.cells
    obtain ⟨kc3_0, kc3_1, kc3_2⟩ := BX9.cells
    have kc0_0p := kc0_0; rw [HW9.out] at kc0_0p
    have kc0_1p := kc0_1; rw [HW9.out] at kc0_1p
    have kc0_2p := kc0_2; rw [HW9.out] at kc0_2p
    have kc1_0p := kc1_0; rw [HW9.out] at kc1_0p
    have kc1_1p := kc1_1; rw [HW9.out] at kc1_1p
    have kc1_2p := kc1_2; rw [HW9.out] at kc1_2p
    have kc2_0p := kc2_0; rw [HW9.out] at kc2_0p
    have kc2_1p := kc2_1; rw [HW9.out] at kc2_1p
    have kc2_2p := kc2_2; rw [HW9.out] at kc2_2p
    have kc3_0p := kc3_0; rw [HW9.out] at kc3_0p
    have kc3_1p := kc3_1; rw [HW9.out] at kc3_1p
    have kc3_2p := kc3_2; rw [HW9.out] at kc3_2p
    go_wp2_with fail
    rw [← HW9.out]; clear HW9
    clear kc0_0 kc0_1 kc0_2 kc1_0 kc1_1 kc1_2 kc2_0 kc2_1 kc2_2 kc3_0 kc3_1 kc3_2 kc0_0p kc0_1p kc0_2p kc1_0p kc1_1p kc1_2p kc2_0p kc2_1p kc2_2p kc3_0p kc3_1p kc3_2p
    refine (eqNetwork_same _ _ (cnOut d0) _ _ _ _ _ R8_0_9.out.net R4_0_9.out.net (by omega) (by omega)).mono ?_
    rintro e w10 ⟨rfl, hb10⟩
    have hs10 := hb10.size
    have hbw10 := hbw9.trans (hb10.mono (by omega))
    clear hbw9
    have R4_0_10 := Lib.hid (NetY.below R4_0_9.out hb10 (by omega)); clear R4_0_9
    have R6_10 := Lib.hid (NetX.below R6_9.out hb10 (by omega)); clear R6_9
    have R8_0_10 := Lib.hid (NetY.below R8_0_9.out hb10 (by omega)); clear R8_0_9
    have BX1_10 := BX1_9.below hb10 (by omega); clear BX1_9
    have BX5_10 := BX5_9.below hb10 (by omega); clear BX5_9
    have BX7_10 := BX7_9.below hb10 (by omega); clear BX7_9
    have BX9_10 := BX9.below hb10 (by omega); clear BX9
    obtain ⟨kc0_0, kc0_1, kc0_2⟩ := BX1_10.cells
    obtain ⟨kc1_0, kc1_1, kc1_2⟩ := BX5_10.cells
    obtain ⟨kc2_0, kc2_1, kc2_2⟩ := BX7_10.cells
    obtain ⟨kc3_0, kc3_1, kc3_2⟩ := BX9_10.cells
    go_wp2_with fail
    have hq11 : w10.heap.size ≤ w10.heap.size := Nat.le_refl _
    go_region_held3 (fun w' => w'.cell? ⟨w.heap.size, 0, none⟩ = some (.slice A0 d0.ends.length c0) ∧ w'.cell? ⟨w.heap.size, 1, none⟩ = some (.slice A0' d0.ids.length c0') ∧ w'.cell? ⟨w.heap.size, 2, none⟩ = some (.slice A0'' d0.inputs.length c0'') ∧ w'.cell? ⟨w4.heap.size, 0, none⟩ = some (.slice Ar4_0 (cnOut d0).ends.length cr4_0) ∧ w'.cell? ⟨w4.heap.size, 1, none⟩ = some (.slice Ar4_0' (cnOut d0).ids.length cr4_0') ∧ w'.cell? ⟨w4.heap.size, 2, none⟩ = some (.slice Ar4_0'' (cnOut d0).inputs.length cr4_0'') ∧ w'.cell? ⟨w6.heap.size, 0, none⟩ = some (.slice Ar6 d0.ends.length cr6) ∧ w'.cell? ⟨w6.heap.size, 1, none⟩ = some (.slice Ar6' d0.ids.length cr6') ∧ w'.cell? ⟨w6.heap.size, 2, none⟩ = some (.slice Ar6'' d0.inputs.length cr6'') ∧ w'.cell? ⟨w8.heap.size, 0, none⟩ = some (.slice Ar8_0 (cnOut d0).ends.length cr8_0) ∧ w'.cell? ⟨w8.heap.size, 1, none⟩ = some (.slice Ar8_0' (cnOut d0).ids.length cr8_0') ∧ w'.cell? ⟨w8.heap.size, 2, none⟩ = some (.slice Ar8_0'' (cnOut d0).inputs.length cr8_0''))
      (first | exact ⟨kc0_0, kc0_1, kc0_2, kc1_0, kc1_1, kc1_2, kc2_0, kc2_1, kc2_2, kc3_0, kc3_1, kc3_2⟩ | exact ⟨(hb11.cell (p := ⟨w.heap.size, 0, none⟩) (by show w.heap.size < w10.heap.size; omega)).trans kc0_0, (hb11.cell (p := ⟨w.heap.size, 1, none⟩) (by show w.heap.size < w10.heap.size; omega)).trans kc0_1, (hb11.cell (p := ⟨w.heap.size, 2, none⟩) (by show w.heap.size < w10.heap.size; omega)).trans kc0_2, (hb11.cell (p := ⟨w4.heap.size, 0, none⟩) (by show w4.heap.size < w10.heap.size; omega)).trans kc1_0, (hb11.cell (p := ⟨w4.heap.size, 1, none⟩) (by show w4.heap.size < w10.heap.size; omega)).trans kc1_1, (hb11.cell (p := ⟨w4.heap.size, 2, none⟩) (by show w4.heap.size < w10.heap.size; omega)).trans kc1_2, (hb11.cell (p := ⟨w6.heap.size, 0, none⟩) (by show w6.heap.size < w10.heap.size; omega)).trans kc2_0, (hb11.cell (p := ⟨w6.heap.size, 1, none⟩) (by show w6.heap.size < w10.heap.size; omega)).trans kc2_1, (hb11.cell (p := ⟨w6.heap.size, 2, none⟩) (by show w6.heap.size < w10.heap.size; omega)).trans kc2_2, (hb11.cell (p := ⟨w8.heap.size, 0, none⟩) (by show w8.heap.size < w10.heap.size; omega)).trans kc3_0, (hb11.cell (p := ⟨w8.heap.size, 1, none⟩) (by show w8.heap.size < w10.heap.size; omega)).trans kc3_1, (hb11.cell (p := ⟨w8.heap.size, 2, none⟩) (by show w8.heap.size < w10.heap.size; omega)).trans kc3_2⟩ | exact ⟨kq11_0, kq11_1, kq11_2, kq11_3, kq11_4, kq11_5, kq11_6, kq11_7, kq11_8, kq11_9, kq11_10, kq11_11⟩)
      (first | (go_at_call 7; refine (toNetwork_any _ d0 _ _ _ (Net.below H0.out hbw10.drew (Nat.le_refl _)) (by show _ ≤ w10.heap.size; omega) (by omega)).mono ?_; rintro e w11 ⟨r11, rfl, hr11, hbd11⟩; have hb11 : Below w10.heap.size w10 w11 := (Below.refl _ _).drew.trans hbd11; clear hbd11; have R11 := Lib.hid hr11; obtain ⟨Ar11, cr11, Ar11', cr11', Ar11'', cr11'', rfl, _⟩ := hr11.net.parts; clear hr11) | (go_at_call 10; refine (eqNetwork_same _ _ d0 _ _ _ _ _ (Net.below (R6_10.out.net) hb11 (by show _ ≤ w10.heap.size; omega)) (R11.out.net) (by have := hb11.size; show _ ≤ w11.heap.size; exact Nat.le_trans (by show _ ≤ w10.heap.size; omega) this) (Nat.le_refl _)).mono ?_; rintro e wq11 ⟨rfl, hbq11⟩; have kq11_0 := (hbq11.cell (p := ⟨w.heap.size, 0, none⟩) (by have := hb11.size; show w.heap.size < w11.heap.size; exact Nat.lt_of_lt_of_le (by show w.heap.size < w10.heap.size; omega) this)).trans ((hb11.cell (p := ⟨w.heap.size, 0, none⟩) (by show w.heap.size < w10.heap.size; omega)).trans kc0_0); have kq11_1 := (hbq11.cell (p := ⟨w.heap.size, 1, none⟩) (by have := hb11.size; show w.heap.size < w11.heap.size; exact Nat.lt_of_lt_of_le (by show w.heap.size < w10.heap.size; omega) this)).trans ((hb11.cell (p := ⟨w.heap.size, 1, none⟩) (by show w.heap.size < w10.heap.size; omega)).trans kc0_1); have kq11_2 := (hbq11.cell (p := ⟨w.heap.size, 2, none⟩) (by have := hb11.size; show w.heap.size < w11.heap.size; exact Nat.lt_of_lt_of_le (by show w.heap.size < w10.heap.size; omega) this)).trans ((hb11.cell (p := ⟨w.heap.size, 2, none⟩) (by show w.heap.size < w10.heap.size; omega)).trans kc0_2); have kq11_3 := (hbq11.cell (p := ⟨w4.heap.size, 0, none⟩) (by have := hb11.size; show w4.heap.size < w11.heap.size; exact Nat.lt_of_lt_of_le (by show w4.heap.size < w10.heap.size; omega) this)).trans ((hb11.cell (p := ⟨w4.heap.size, 0, none⟩) (by show w4.heap.size < w10.heap.size; omega)).trans kc1_0); have kq11_4 := (hbq11.cell (p := ⟨w4.heap.size, 1, none⟩) (by have := hb11.size; show w4.heap.size < w11.heap.size; exact Nat.lt_of_lt_of_le (by show w4.heap.size < w10.heap.size; omega) this)).trans ((hb11.cell (p := ⟨w4.heap.size, 1, none⟩) (by show w4.heap.size < w10.heap.size; omega)).trans kc1_1); have kq11_5 := (hbq11.cell (p := ⟨w4.heap.size, 2, none⟩) (by have := hb11.size; show w4.heap.size < w11.heap.size; exact Nat.lt_of_lt_of_le (by show w4.heap.size < w10.heap.size; omega) this)).trans ((hb11.cell (p := ⟨w4.heap.size, 2, none⟩) (by show w4.heap.size < w10.heap.size; omega)).trans kc1_2); have kq11_6 := (hbq11.cell (p := ⟨w6.heap.size, 0, none⟩) (by have := hb11.size; show w6.heap.size < w11.heap.size; exact Nat.lt_of_lt_of_le (by show w6.heap.size < w10.heap.size; omega) this)).trans ((hb11.cell (p := ⟨w6.heap.size, 0, none⟩) (by show w6.heap.size < w10.heap.size; omega)).trans kc2_0); have kq11_7 := (hbq11.cell (p := ⟨w6.heap.size, 1, none⟩) (by have := hb11.size; show w6.heap.size < w11.heap.size; exact Nat.lt_of_lt_of_le (by show w6.heap.size < w10.heap.size; omega) this)).trans ((hb11.cell (p := ⟨w6.heap.size, 1, none⟩) (by show w6.heap.size < w10.heap.size; omega)).trans kc2_1); have kq11_8 := (hbq11.cell (p := ⟨w6.heap.size, 2, none⟩) (by have := hb11.size; show w6.heap.size < w11.heap.size; exact Nat.lt_of_lt_of_le (by show w6.heap.size < w10.heap.size; omega) this)).trans ((hb11.cell (p := ⟨w6.heap.size, 2, none⟩) (by show w6.heap.size < w10.heap.size; omega)).trans kc2_2); have kq11_9 := (hbq11.cell (p := ⟨w8.heap.size, 0, none⟩) (by have := hb11.size; show w8.heap.size < w11.heap.size; exact Nat.lt_of_lt_of_le (by show w8.heap.size < w10.heap.size; omega) this)).trans ((hb11.cell (p := ⟨w8.heap.size, 0, none⟩) (by show w8.heap.size < w10.heap.size; omega)).trans kc3_0); have kq11_10 := (hbq11.cell (p := ⟨w8.heap.size, 1, none⟩) (by have := hb11.size; show w8.heap.size < w11.heap.size; exact Nat.lt_of_lt_of_le (by show w8.heap.size < w10.heap.size; omega) this)).trans ((hb11.cell (p := ⟨w8.heap.size, 1, none⟩) (by show w8.heap.size < w10.heap.size; omega)).trans kc3_1); have kq11_11 := (hbq11.cell (p := ⟨w8.heap.size, 2, none⟩) (by have := hb11.size; show w8.heap.size < w11.heap.size; exact Nat.lt_of_lt_of_le (by show w8.heap.size < w10.heap.size; omega) this)).trans ((hb11.cell (p := ⟨w8.heap.size, 2, none⟩) (by show w8.heap.size < w10.heap.size; omega)).trans kc3_2)))
    clear kc0_0 kc0_1 kc0_2 kc1_0 kc1_1 kc1_2 kc2_0 kc2_1 kc2_2 kc3_0 kc3_1 kc3_2 hq11 kq11_0 kq11_1 kq11_2 kq11_3 kq11_4 kq11_5 kq11_6 kq11_7 kq11_8 kq11_9 kq11_10 kq11_11
    clear R11
    have hbz11 : Below w10.heap.size w10 wq11 := Below.trans hb11 (hbq11.mono hb11.size)
    clear hb11 hbq11
    have hs11 := hbz11.size
    have hbw11 := hbw10.trans (hbz11.mono (by omega))
    clear hbw10
    have R4_0_11 := Lib.hid (NetY.below R4_0_10.out hbz11 (by omega)); clear R4_0_10
    have R6_11 := Lib.hid (NetX.below R6_10.out hbz11 (by omega)); clear R6_10
    have R8_0_11 := Lib.hid (NetY.below R8_0_10.out hbz11 (by omega)); clear R8_0_10
    have BX1_11 := BX1_10.below hbz11 (by omega); clear BX1_10
    have BX5_11 := BX5_10.below hbz11 (by omega); clear BX5_10
    have BX7_11 := BX7_10.below hbz11 (by omega); clear BX7_10
    have BX9_11 := BX9_10.below hbz11 (by omega); clear BX9_10
    obtain ⟨kc0_0, kc0_1, kc0_2⟩ := BX1_11.cells
    obtain ⟨kc1_0, kc1_1, kc1_2⟩ := BX5_11.cells
    obtain ⟨kc2_0, kc2_1, kc2_2⟩ := BX7_11.cells
    obtain ⟨kc3_0, kc3_1, kc3_2⟩ := BX9_11.cells
    go_wp2_with fail
    clear kc0_0 kc0_1 kc0_2 kc1_0 kc1_1 kc1_2 kc2_0 kc2_1 kc2_2 kc3_0 kc3_1 kc3_2
    refine (markNetwork_any _ d0 _ _ _ _ R6_11.out (by omega) (by omega) (by omega) (by omega)).mono ?_
    rintro e w12 ⟨rfl, hr12, ht12⟩
    have hs12 := ht12.size
    have hbw12 := hbw11.trans ((ht12.below (by omega)).mono (by omega))
    clear hbw11
    have R4_0_12 := Lib.hid (NetY.turned R4_0_11.out ht12 (by omega) (by omega)); clear R4_0_11
    have R8_0_12 := Lib.hid (NetY.turned R8_0_11.out ht12 (by omega) (by omega)); clear R8_0_11
    have BX1_12 : Box3 w12 w.heap.size 25 (.slice A0 d0.ends.length c0) (.slice A0' d0.ids.length c0') (.slice A0'' d0.inputs.length c0'') := (ht12.block _ (by omega) (by omega)).trans BX1_11; clear BX1_11
    have BX5_12 : Box3 w12 w4.heap.size 31 (.slice Ar4_0 (cnOut d0).ends.length cr4_0) (.slice Ar4_0' (cnOut d0).ids.length cr4_0') (.slice Ar4_0'' (cnOut d0).inputs.length cr4_0'') := (ht12.block _ (by omega) (by omega)).trans BX5_11; clear BX5_11
    have BX7_12 : Box3 w12 w6.heap.size 31 (.slice Ar6 d0.ends.length cr6) (.slice Ar6' d0.ids.length cr6') (.slice Ar6'' d0.inputs.length cr6'') := (ht12.block _ (by omega) (by omega)).trans BX7_11; clear BX7_11
    have BX9_12 : Box3 w12 w8.heap.size 31 (.slice Ar8_0 (cnOut d0).ends.length cr8_0) (.slice Ar8_0' (cnOut d0).ids.length cr8_0') (.slice Ar8_0'' (cnOut d0).inputs.length cr8_0'') := (ht12.block _ (by omega) (by omega)).trans BX9_11; clear BX9_11
    clear R6_11
    have R6_12 := Lib.hid hr12; clear hr12
    obtain ⟨kc0_0, kc0_1, kc0_2⟩ := BX1_12.cells
    obtain ⟨kc1_0, kc1_1, kc1_2⟩ := BX5_12.cells
    obtain ⟨kc2_0, kc2_1, kc2_2⟩ := BX7_12.cells
    obtain ⟨kc3_0, kc3_1, kc3_2⟩ := BX9_12.cells
    go_wp2_with fail
    clear kc0_0 kc0_1 kc0_2 kc1_0 kc1_1 kc1_2 kc2_0 kc2_1 kc2_2 kc3_0 kc3_1 kc3_2
    refine (eqNetwork_same _ _ (cnOut d0) _ _ _ _ _ R8_0_12.out.net R4_0_12.out.net (by omega) (by omega)).mono ?_
    rintro e w13 ⟨rfl, hb13⟩
    have hs13 := hb13.size
    have hbw13 := hbw12.trans (hb13.mono (by omega))
    clear hbw12
    have R4_0_13 := Lib.hid (NetY.below R4_0_12.out hb13 (by omega)); clear R4_0_12
    have R6_13 := Lib.hid (NetX.below R6_12.out hb13 (by omega)); clear R6_12
    have R8_0_13 := Lib.hid (NetY.below R8_0_12.out hb13 (by omega)); clear R8_0_12
    have BX1_13 := BX1_12.below hb13 (by omega); clear BX1_12
    have BX5_13 := BX5_12.below hb13 (by omega); clear BX5_12
    have BX7_13 := BX7_12.below hb13 (by omega); clear BX7_12
    have BX9_13 := BX9_12.below hb13 (by omega); clear BX9_12
    obtain ⟨kc0_0, kc0_1, kc0_2⟩ := BX1_13.cells
    obtain ⟨kc1_0, kc1_1, kc1_2⟩ := BX5_13.cells
    obtain ⟨kc2_0, kc2_1, kc2_2⟩ := BX7_13.cells
    obtain ⟨kc3_0, kc3_1, kc3_2⟩ := BX9_13.cells
    go_wp2_with fail
    clear kc0_0 kc0_1 kc0_2 kc1_0 kc1_1 kc1_2 kc2_0 kc2_1 kc2_2 kc3_0 kc3_1 kc3_2
    refine (markNetworkY_any _ (cnOut d0) _ _ _ _ R8_0_13.out (by omega) (by omega) (by omega) (by omega)).mono ?_
    rintro e w14 ⟨rfl, hr14, ht14⟩
    have hs14 := ht14.size
    have hbw14 := hbw13.trans ((ht14.below (by omega)).mono (by omega))
    clear hbw13
    have R4_0_14 := Lib.hid (NetY.turned R4_0_13.out ht14 (by omega) (by omega)); clear R4_0_13
    have R6_14 := Lib.hid (NetX.turned R6_13.out ht14 (by omega) (by omega)); clear R6_13
    have BX1_14 : Box3 w14 w.heap.size 25 (.slice A0 d0.ends.length c0) (.slice A0' d0.ids.length c0') (.slice A0'' d0.inputs.length c0'') := (ht14.block _ (by omega) (by omega)).trans BX1_13; clear BX1_13
    have BX5_14 : Box3 w14 w4.heap.size 31 (.slice Ar4_0 (cnOut d0).ends.length cr4_0) (.slice Ar4_0' (cnOut d0).ids.length cr4_0') (.slice Ar4_0'' (cnOut d0).inputs.length cr4_0'') := (ht14.block _ (by omega) (by omega)).trans BX5_13; clear BX5_13
    have BX7_14 : Box3 w14 w6.heap.size 31 (.slice Ar6 d0.ends.length cr6) (.slice Ar6' d0.ids.length cr6') (.slice Ar6'' d0.inputs.length cr6'') := (ht14.block _ (by omega) (by omega)).trans BX7_13; clear BX7_13
    have BX9_14 : Box3 w14 w8.heap.size 31 (.slice Ar8_0 (cnOut d0).ends.length cr8_0) (.slice Ar8_0' (cnOut d0).ids.length cr8_0') (.slice Ar8_0'' (cnOut d0).inputs.length cr8_0'') := (ht14.block _ (by omega) (by omega)).trans BX9_13; clear BX9_13
    clear R8_0_13
    have R8_0_14 := Lib.hid hr14; clear hr14
    obtain ⟨kc0_0, kc0_1, kc0_2⟩ := BX1_14.cells
    obtain ⟨kc1_0, kc1_1, kc1_2⟩ := BX5_14.cells
    obtain ⟨kc2_0, kc2_1, kc2_2⟩ := BX7_14.cells
    obtain ⟨kc3_0, kc3_1, kc3_2⟩ := BX9_14.cells
    go_wp2_with fail
    clear kc0_0 kc0_1 kc0_2 kc1_0 kc1_1 kc1_2 kc2_0 kc2_1 kc2_2 kc3_0 kc3_1 kc3_2
    refine (heldNetwork_yes _ (cnOut d0) _ _ _ _ R8_0_14.out.net (by omega) (by omega) (by omega) (by omega)).mono ?_
    rintro e w15 ⟨rfl, hb15⟩
    have hs15 := hb15.size
    have hbw15 := hbw14.trans (hb15.mono (by omega))
    clear hbw14
    have R4_0_15 := Lib.hid (NetY.below R4_0_14.out hb15 (by omega)); clear R4_0_14
    have R6_15 := Lib.hid (NetX.below R6_14.out hb15 (by omega)); clear R6_14
    have R8_0_15 := Lib.hid (NetY.below R8_0_14.out hb15 (by omega)); clear R8_0_14
    have BX1_15 := BX1_14.below hb15 (by omega); clear BX1_14
    have BX5_15 := BX5_14.below hb15 (by omega); clear BX5_14
    have BX7_15 := BX7_14.below hb15 (by omega); clear BX7_14
    have BX9_15 := BX9_14.below hb15 (by omega); clear BX9_14
    obtain ⟨kc0_0, kc0_1, kc0_2⟩ := BX1_15.cells
    obtain ⟨kc1_0, kc1_1, kc1_2⟩ := BX5_15.cells
    obtain ⟨kc2_0, kc2_1, kc2_2⟩ := BX7_15.cells
    obtain ⟨kc3_0, kc3_1, kc3_2⟩ := BX9_15.cells
    go_wp2_with fail
    clear kc0_0 kc0_1 kc0_2 kc1_0 kc1_1 kc1_2 kc2_0 kc2_1 kc2_2 kc3_0 kc3_1 kc3_2
    refine (toNetwork_any _ d0 _ _ _ (Net.below H0.out hbw15 (Nat.le_refl _)) (by omega) (by omega)).mono ?_
    rintro e w16 ⟨r16, rfl, hr16, hb16⟩
    have hs16 := hb16.size
    have hbw16 := hbw15.trans (hb16.mono (by omega))
    clear hbw15
    have R4_0_16 := Lib.hid (NetY.below R4_0_15.out hb16 (by omega)); clear R4_0_15
    have R6_16 := Lib.hid (NetX.below R6_15.out hb16 (by omega)); clear R6_15
    have R8_0_16 := Lib.hid (NetY.below R8_0_15.out hb16 (by omega)); clear R8_0_15
    have BX1_16 := BX1_15.below hb16 (by omega); clear BX1_15
    have BX5_16 := BX5_15.below hb16 (by omega); clear BX5_15
    have BX7_16 := BX7_15.below hb16 (by omega); clear BX7_15
    have BX9_16 := BX9_15.below hb16 (by omega); clear BX9_15
    have R16 := Lib.hid hr16
    obtain ⟨Ar16, cr16, Ar16', cr16', Ar16'', cr16'', rfl, _⟩ := hr16.net.parts
    clear hr16
    obtain ⟨kc0_0, kc0_1, kc0_2⟩ := BX1_16.cells
    obtain ⟨kc1_0, kc1_1, kc1_2⟩ := BX5_16.cells
    obtain ⟨kc2_0, kc2_1, kc2_2⟩ := BX7_16.cells
    obtain ⟨kc3_0, kc3_1, kc3_2⟩ := BX9_16.cells
    go_wp2_with fail
    clear kc0_0 kc0_1 kc0_2 kc1_0 kc1_1 kc1_2 kc2_0 kc2_1 kc2_2 kc3_0 kc3_1 kc3_2
    refine (CanonicalNetwork_impl _ d0 _ _ _ R16.out.net (by omega) (by omega) I0.out).mono ?_
    rintro e w17 ⟨r17_0, rfl, hr17_0, hb17⟩
    have hs17 := hb17.size
    have hbw17 := hbw16.trans (hb17.mono (by omega))
    clear hbw16
    have R4_0_17 := Lib.hid (NetY.below R4_0_16.out hb17 (by omega)); clear R4_0_16
    have R6_17 := Lib.hid (NetX.below R6_16.out hb17 (by omega)); clear R6_16
    have R8_0_17 := Lib.hid (NetY.below R8_0_16.out hb17 (by omega)); clear R8_0_16
    have R16_17 := Lib.hid (NetX.below R16.out hb17 (by omega)); clear R16
    have BX1_17 := BX1_16.below hb17 (by omega); clear BX1_16
    have BX5_17 := BX5_16.below hb17 (by omega); clear BX5_16
    have BX7_17 := BX7_16.below hb17 (by omega); clear BX7_16
    have BX9_17 := BX9_16.below hb17 (by omega); clear BX9_16
    have R17_0 := Lib.hid hr17_0
    obtain ⟨Ar17_0, cr17_0, Ar17_0', cr17_0', Ar17_0'', cr17_0'', rfl, _⟩ := hr17_0.net.parts
    clear hr17_0
    obtain ⟨w18, HW18⟩ : ∃ W, Hid (W = w17.alloc (.cells #[.slice Ar17_0 (cnOut d0).ends.length cr17_0, .slice Ar17_0' (cnOut d0).ids.length cr17_0', .slice Ar17_0'' (cnOut d0).inputs.length cr17_0''] 31)) := ⟨_, Lib.hid rfl⟩
    have hb18 : Below w17.heap.size w17 w18 := by rw [HW18.out]; exact below_a1 _ _
    have hz18 : w17.heap.size + 1 ≤ w18.heap.size := by rw [HW18.out]; simp
    have hs18 := hb18.size
    have hbw18 := hbw17.trans (hb18.mono (by omega))
    clear hbw17
    have R4_0_18 := Lib.hid (NetY.below R4_0_17.out hb18 (by omega)); clear R4_0_17
    have R6_18 := Lib.hid (NetX.below R6_17.out hb18 (by omega)); clear R6_17
    have R8_0_18 := Lib.hid (NetY.below R8_0_17.out hb18 (by omega)); clear R8_0_17
    have R16_18 := Lib.hid (NetX.below R16_17.out hb18 (by omega)); clear R16_17
    have R17_0_18 := Lib.hid (NetY.below R17_0.out hb18 (by omega)); clear R17_0
    have BX1_18 := BX1_17.below hb18 (by omega); clear BX1_17
    have BX5_18 := BX5_17.below hb18 (by omega); clear BX5_17
    have BX7_18 := BX7_17.below hb18 (by omega); clear BX7_17
    have BX9_18 := BX9_17.below hb18 (by omega); clear BX9_17
    have BX18 : Box3 w18 w17.heap.size 31 (.slice Ar17_0 (cnOut d0).ends.length cr17_0) (.slice Ar17_0' (cnOut d0).ids.length cr17_0') (.slice Ar17_0'' (cnOut d0).inputs.length cr17_0'') := by rw [HW18.out]; exact Box3.new _ _ _ _ _
    clear R16_18
    obtain ⟨kc0_0, kc0_1, kc0_2⟩ := BX1_18.cells
    obtain ⟨kc1_0, kc1_1, kc1_2⟩ := BX5_18.cells
    obtain ⟨kc2_0, kc2_1, kc2_2⟩ := BX7_18.cells
    obtain ⟨kc3_0, kc3_1, kc3_2⟩ := BX9_18.cells
    obtain ⟨kc4_0, kc4_1, kc4_2⟩ := BX18.cells
    have kc0_0p := kc0_0; rw [HW18.out] at kc0_0p
    have kc0_1p := kc0_1; rw [HW18.out] at kc0_1p
    have kc0_2p := kc0_2; rw [HW18.out] at kc0_2p
    have kc1_0p := kc1_0; rw [HW18.out] at kc1_0p
    have kc1_1p := kc1_1; rw [HW18.out] at kc1_1p
    have kc1_2p := kc1_2; rw [HW18.out] at kc1_2p
    have kc2_0p := kc2_0; rw [HW18.out] at kc2_0p
    have kc2_1p := kc2_1; rw [HW18.out] at kc2_1p
    have kc2_2p := kc2_2; rw [HW18.out] at kc2_2p
    have kc3_0p := kc3_0; rw [HW18.out] at kc3_0p
    have kc3_1p := kc3_1; rw [HW18.out] at kc3_1p
    have kc3_2p := kc3_2; rw [HW18.out] at kc3_2p
    have kc4_0p := kc4_0; rw [HW18.out] at kc4_0p
    have kc4_1p := kc4_1; rw [HW18.out] at kc4_1p
    have kc4_2p := kc4_2; rw [HW18.out] at kc4_2p
    go_wp2_with fail
    rw [← HW18.out]; clear HW18
    clear kc0_0 kc0_1 kc0_2 kc1_0 kc1_1 kc1_2 kc2_0 kc2_1 kc2_2 kc3_0 kc3_1 kc3_2 kc4_0 kc4_1 kc4_2 kc0_0p kc0_1p kc0_2p kc1_0p kc1_1p kc1_2p kc2_0p kc2_1p kc2_2p kc3_0p kc3_1p kc3_2p kc4_0p kc4_1p kc4_2p
    refine (eqNetwork_same _ _ (cnOut d0) _ _ _ _ _ R17_0_18.out.net R4_0_18.out.net (by omega) (by omega)).mono ?_
    rintro e w19 ⟨rfl, hb19⟩
    have hs19 := hb19.size
    have hbw19 := hbw18.trans (hb19.mono (by omega))
    clear hbw18
    have R4_0_19 := Lib.hid (NetY.below R4_0_18.out hb19 (by omega)); clear R4_0_18
    have R6_19 := Lib.hid (NetX.below R6_18.out hb19 (by omega)); clear R6_18
    have R8_0_19 := Lib.hid (NetY.below R8_0_18.out hb19 (by omega)); clear R8_0_18
    have R17_0_19 := Lib.hid (NetY.below R17_0_18.out hb19 (by omega)); clear R17_0_18
    have BX1_19 := BX1_18.below hb19 (by omega); clear BX1_18
    have BX5_19 := BX5_18.below hb19 (by omega); clear BX5_18
    have BX7_19 := BX7_18.below hb19 (by omega); clear BX7_18
    have BX9_19 := BX9_18.below hb19 (by omega); clear BX9_18
    have BX18_19 := BX18.below hb19 (by omega); clear BX18
    obtain ⟨kc0_0, kc0_1, kc0_2⟩ := BX1_19.cells
    obtain ⟨kc1_0, kc1_1, kc1_2⟩ := BX5_19.cells
    obtain ⟨kc2_0, kc2_1, kc2_2⟩ := BX7_19.cells
    obtain ⟨kc3_0, kc3_1, kc3_2⟩ := BX9_19.cells
    obtain ⟨kc4_0, kc4_1, kc4_2⟩ := BX18_19.cells
    go_wp2_with fail
    clear kc0_0 kc0_1 kc0_2 kc1_0 kc1_1 kc1_2 kc2_0 kc2_1 kc2_2 kc3_0 kc3_1 kc3_2 kc4_0 kc4_1 kc4_2
    refine (heldNetwork_yes _ (cnOut d0) _ _ _ _ R8_0_19.out.net (by omega) (by omega) (by omega) (by omega)).mono ?_
    rintro e w20 ⟨rfl, hb20⟩
    have hs20 := hb20.size
    have hbw20 := hbw19.trans (hb20.mono (by omega))
    clear hbw19
    have R4_0_20 := Lib.hid (NetY.below R4_0_19.out hb20 (by omega)); clear R4_0_19
    have R6_20 := Lib.hid (NetX.below R6_19.out hb20 (by omega)); clear R6_19
    have R8_0_20 := Lib.hid (NetY.below R8_0_19.out hb20 (by omega)); clear R8_0_19
    have R17_0_20 := Lib.hid (NetY.below R17_0_19.out hb20 (by omega)); clear R17_0_19
    have BX1_20 := BX1_19.below hb20 (by omega); clear BX1_19
    have BX5_20 := BX5_19.below hb20 (by omega); clear BX5_19
    have BX7_20 := BX7_19.below hb20 (by omega); clear BX7_19
    have BX9_20 := BX9_19.below hb20 (by omega); clear BX9_19
    have BX18_20 := BX18_19.below hb20 (by omega); clear BX18_19
    go_wp2_with fail
    go_ret
    exact ⟨rfl, hbw20⟩
end Go.Proofs.Ytmdlginjblnfoaa.fnExactCanonicalNetwork
