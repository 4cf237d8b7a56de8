/-
  For all arguments the program's BallCarving returns what the reference's returns, leaves its arguments as they were, and returns memory of its own. No condition.
-/
import Derived.Test.YtcmmklcampmkjaaBcV
import Derived.Test.YtcmmklcampmkjaaBcS
import Derived.Test.YtcmmklcampmkjaaBcR
import Derived.Deep.RegionHeld3
namespace Go.Proofs.Ytcmmklcampmkjaa.fnExactBallCarving
open Go.ChangeShapes Go.WideShapes Go.ChangeAt Go.RowKit
set_option linter.unusedVariables false

theorem own : ownKnob Try.prog.godebug = none := by kernel_rfl
theorem laidOut : laidOutB Try.prog = true := by kernel_rfl

set_option maxHeartbeats 8000000 in
set_option maxRecDepth 100000 in
theorem walk (w : World) (v0 : Value) (d0 : NetD) (h0 : Net w 0 w.heap.size v0 d0) (i0 : d0.Ok) (v1 : Value) (d1 : List Int) (h1 : IntS w 0 w.heap.size v1 d1) (i1 : ∀ z ∈ d1, I64 z) :
    Calls Try.prog 4 #[v0, v1] w fun e w' => e = .returned (.bool true) ∧ Below w.heap.size w w' := by
  have H0 := Lib.hid h0
  obtain ⟨A0, c0, A0', c0', A0'', c0'', rfl, _⟩ := h0.parts
  clear h0
  have I0 := Lib.hid i0; clear i0
  have H1 := Lib.hid h1
  obtain ⟨A1, c1, rfl⟩ := h1.shape
  clear h1
  have I1 := Lib.hid i1; clear i1
  have hdl := carOut_len d0 d1
  have hdl1 := hdl.1
  have hdl2 := hdl.2
  have hdc : (carOut d0 d1).cnt ≤ 80 := by unfold DecD.cnt; omega
  have hcnt0 := NetD.cnt_le d0
  by_cases cond0 : d1.length ≤ 1048576
  case neg =>
    obtain ⟨w1, HW1⟩ : ∃ W, Hid (W = w.alloc (.cells #[.slice A0 d0.ends.length c0, .slice A0' d0.ids.length c0', .slice A0'' d0.inputs.length c0''] 25)) := ⟨_, Lib.hid rfl⟩
    have hb1 : Below w.heap.size w w1 := by rw [HW1.out]; exact below_a1 _ _
    have hz1 : w.heap.size + 1 ≤ w1.heap.size := by rw [HW1.out]; simp
    have hs1 := hb1.size
    have hbw1 := hb1
    have BX1 : Box3 w1 w.heap.size 25 (.slice A0 d0.ends.length c0) (.slice A0' d0.ids.length c0') (.slice A0'' d0.inputs.length c0'') := by rw [HW1.out]; exact Box3.new _ _ _ _ _
    go_enter Try.func4, Try.ntmps4
    obtain ⟨kc0_0, kc0_1, kc0_2⟩ := BX1.cells
    go_wp2_with fail
    rw [← HW1.out]; clear HW1
    clear kc0_0 kc0_1 kc0_2
    go_ret
    exact ⟨rfl, hbw1⟩
  by_cases cond1 : d0.sz ≤ 1048576
  case neg =>
    obtain ⟨w1, HW1⟩ : ∃ W, Hid (W = w.alloc (.cells #[.slice A0 d0.ends.length c0, .slice A0' d0.ids.length c0', .slice A0'' d0.inputs.length c0''] 25)) := ⟨_, Lib.hid rfl⟩
    have hb1 : Below w.heap.size w w1 := by rw [HW1.out]; exact below_a1 _ _
    have hz1 : w.heap.size + 1 ≤ w1.heap.size := by rw [HW1.out]; simp
    have hs1 := hb1.size
    have hbw1 := hb1
    have BX1 : Box3 w1 w.heap.size 25 (.slice A0 d0.ends.length c0) (.slice A0' d0.ids.length c0') (.slice A0'' d0.inputs.length c0'') := by rw [HW1.out]; exact Box3.new _ _ _ _ _
    go_enter Try.func4, Try.ntmps4
    obtain ⟨kc0_0, kc0_1, kc0_2⟩ := BX1.cells
    go_wp2_with fail
    rw [← HW1.out]; clear HW1
    clear kc0_0 kc0_1 kc0_2
    refine (szNetwork_no _ d0 _ _ _ _ (Net.below H0.out hbw1 (Nat.le_refl _)) (by omega) (by omega) (by omega) (by omega)).mono ?_
    rintro e w2 ⟨rfl, hb2⟩
    have hs2 := hb2.size
    have hbw2 := hbw1.trans (hb2.mono (by omega))
    clear hbw1
    have BX1_2 := BX1.below hb2 (by omega); clear BX1
    obtain ⟨kc0_0, kc0_1, kc0_2⟩ := BX1_2.cells
    go_wp2_with fail
    clear kc0_0 kc0_1 kc0_2
    go_ret
    exact ⟨rfl, hbw2⟩
  case pos =>
    obtain ⟨w1, HW1⟩ : ∃ W, Hid (W = w.alloc (.cells #[.slice A0 d0.ends.length c0, .slice A0' d0.ids.length c0', .slice A0'' d0.inputs.length c0''] 25)) := ⟨_, Lib.hid rfl⟩
    have hb1 : Below w.heap.size w w1 := by rw [HW1.out]; exact below_a1 _ _
    have hz1 : w.heap.size + 1 ≤ w1.heap.size := by rw [HW1.out]; simp
    have hs1 := hb1.size
    have hbw1 := hb1
    have BX1 : Box3 w1 w.heap.size 25 (.slice A0 d0.ends.length c0) (.slice A0' d0.ids.length c0') (.slice A0'' d0.inputs.length c0'') := by rw [HW1.out]; exact Box3.new _ _ _ _ _
    go_enter Try.func4, Try.ntmps4
    obtain ⟨kc0_0, kc0_1, kc0_2⟩ := BX1.cells
    go_wp2_with fail
    rw [← HW1.out]; clear HW1
    clear kc0_0 kc0_1 kc0_2
    refine (szNetwork_yes _ d0 _ _ _ _ (Net.below H0.out hbw1 (Nat.le_refl _)) (by omega) (by omega) (by omega)).mono ?_
    rintro e w2 ⟨rfl, hb2⟩
    have hs2 := hb2.size
    have hbw2 := hbw1.trans (hb2.mono (by omega))
    clear hbw1
    have BX1_2 := BX1.below hb2 (by omega); clear BX1
    obtain ⟨kc0_0, kc0_1, kc0_2⟩ := BX1_2.cells
    go_wp2_with fail
    clear kc0_0 kc0_1 kc0_2
    refine (toNetwork_any _ d0 _ _ _ (Net.below H0.out hbw2 (Nat.le_refl _)) (by omega) (by omega)).mono ?_
    rintro e w3 ⟨r3, rfl, hr3, hb3⟩
    have hs3 := hb3.size
    have hbw3 := hbw2.trans (hb3.mono (by omega))
    clear hbw2
    have BX1_3 := BX1_2.below hb3 (by omega); clear BX1_2
    have R3 := Lib.hid hr3
    obtain ⟨Ar3, cr3, Ar3', cr3', Ar3'', cr3'', rfl, _⟩ := hr3.net.parts
    clear hr3
    obtain ⟨kc0_0, kc0_1, kc0_2⟩ := BX1_3.cells
    go_wp2_with fail
    clear kc0_0 kc0_1 kc0_2
    refine (toIntS_any _ d1 _ _ _ (IntS.below H1.out hbw3 (Nat.le_refl _)) (by omega) (by omega)).mono ?_
    rintro e w4 ⟨r4, rfl, hr4, hb4⟩
    have hs4 := hb4.size
    have hbw4 := hbw3.trans (hb4.mono (by omega))
    clear hbw3
    have R3_4 := Lib.hid (NetX.below R3.out hb4 (by omega)); clear R3
    have BX1_4 := BX1_3.below hb4 (by omega); clear BX1_3
    have R4 := Lib.hid hr4
    obtain ⟨Ar4, cr4, rfl⟩ := hr4.shape
    clear hr4
    obtain ⟨kc0_0, kc0_1, kc0_2⟩ := BX1_4.cells
    go_wp2_with fail
    clear kc0_0 kc0_1 kc0_2
    refine (BallCarving_spec _ d0 _ _ _ d1 _ _ _ R3_4.out.net (by omega) R4.out (by omega) (by omega) (by omega) I0.out I1.out).mono ?_
    rintro e w5 ⟨r5_0, rfl, hr5_0, hb5⟩
    have hs5 := hb5.size
    have hbw5 := hbw4.trans (hb5.mono (by omega))
    clear hbw4
    have R3_5 := Lib.hid (NetX.below R3_4.out hb5 (by omega)); clear R3_4
    have R4_5 := Lib.hid (IntS.below R4.out hb5 (by omega)); clear R4
    have BX1_5 := BX1_4.below hb5 (by omega); clear BX1_4
    have R5_0 := Lib.hid hr5_0
    obtain ⟨Ar5_0, cr5_0, Ar5_0', cr5_0', rfl, _⟩ := hr5_0.dec.parts
    clear hr5_0
    obtain ⟨w6, HW6⟩ : ∃ W, Hid (W = w5.alloc (.cells #[.slice Ar5_0 (carOut d0 d1).cluster.length cr5_0, .slice Ar5_0' (carOut d0 d1).colour.length cr5_0'] 36)) := ⟨_, Lib.hid rfl⟩
    have hb6 : Below w5.heap.size w5 w6 := by rw [HW6.out]; exact below_a1 _ _
    have hz6 : w5.heap.size + 1 ≤ w6.heap.size := by rw [HW6.out]; simp
    have hs6 := hb6.size
    have hbw6 := hbw5.trans (hb6.mono (by omega))
    clear hbw5
    have R3_6 := Lib.hid (NetX.below R3_5.out hb6 (by omega)); clear R3_5
    have R4_6 := Lib.hid (IntS.below R4_5.out hb6 (by omega)); clear R4_5
    have R5_0_6 := Lib.hid (DecX.below R5_0.out hb6 (by omega)); clear R5_0
    have BX1_6 := BX1_5.below hb6 (by omega); clear BX1_5
    have BX6 : Box2 w6 w5.heap.size 36 (.slice Ar5_0 (carOut d0 d1).cluster.length cr5_0) (.slice Ar5_0' (carOut d0 d1).colour.length cr5_0') := by rw [HW6.out]; exact Box2.new _ _ _ _
    clear R3_6
    clear R4_6
    obtain ⟨kc0_0, kc0_1, kc0_2⟩ := BX1_6.cells
    obtain ⟨kc1_0, kc1_1⟩ := BX6.cells
    have kc0_0p := kc0_0; rw [HW6.out] at kc0_0p
    have kc0_1p := kc0_1; rw [HW6.out] at kc0_1p
    have kc0_2p := kc0_2; rw [HW6.out] at kc0_2p
    have kc1_0p := kc1_0; rw [HW6.out] at kc1_0p
    have kc1_1p := kc1_1; rw [HW6.out] at kc1_1p
    go_wp2_with fail
    rw [← HW6.out]; clear HW6
    clear kc0_0 kc0_1 kc0_2 kc1_0 kc1_1 kc0_0p kc0_1p kc0_2p kc1_0p kc1_1p
    refine (toNetwork_any _ d0 _ _ _ (Net.below H0.out hbw6 (Nat.le_refl _)) (by omega) (by omega)).mono ?_
    rintro e w7 ⟨r7, rfl, hr7, hb7⟩
    have hs7 := hb7.size
    have hbw7 := hbw6.trans (hb7.mono (by omega))
    clear hbw6
    have R5_0_7 := Lib.hid (DecX.below R5_0_6.out hb7 (by omega)); clear R5_0_6
    have BX1_7 := BX1_6.below hb7 (by omega); clear BX1_6
    have BX6_7 := BX6.below hb7 (by omega); clear BX6
    have R7 := Lib.hid hr7
    obtain ⟨Ar7, cr7, Ar7', cr7', Ar7'', cr7'', rfl, _⟩ := hr7.net.parts
    clear hr7
    obtain ⟨w8, HW8⟩ : ∃ W, Hid (W = w7.alloc (.cells #[.slice Ar7 d0.ends.length cr7, .slice Ar7' d0.ids.length cr7', .slice Ar7'' d0.inputs.length cr7''] 34)) := ⟨_, Lib.hid rfl⟩
    have hb8 : Below w7.heap.size w7 w8 := by rw [HW8.out]; exact below_a1 _ _
    have hz8 : w7.heap.size + 1 ≤ w8.heap.size := by rw [HW8.out]; simp
    have hs8 := hb8.size
    have hbw8 := hbw7.trans (hb8.mono (by omega))
    clear hbw7
    have R5_0_8 := Lib.hid (DecX.below R5_0_7.out hb8 (by omega)); clear R5_0_7
    have R7_8 := Lib.hid (NetX.below R7.out hb8 (by omega)); clear R7
    have BX1_8 := BX1_7.below hb8 (by omega); clear BX1_7
    have BX6_8 := BX6_7.below hb8 (by omega); clear BX6_7
    have BX8 : Box3 w8 w7.heap.size 34 (.slice Ar7 d0.ends.length cr7) (.slice Ar7' d0.ids.length cr7') (.slice Ar7'' d0.inputs.length cr7'') := by rw [HW8.out]; exact Box3.new _ _ _ _ _
    obtain ⟨kc0_0, kc0_1, kc0_2⟩ := BX1_8.cells
    obtain ⟨kc1_0, kc1_1⟩ := BX6_8.cells
    obtain ⟨kc2_0, kc2_1, kc2_2⟩ := BX8.cells
    have kc0_0p := kc0_0; rw [HW8.out] at kc0_0p
    have kc0_1p := kc0_1; rw [HW8.out] at kc0_1p
    have kc0_2p := kc0_2; rw [HW8.out] at kc0_2p
    have kc1_0p := kc1_0; rw [HW8.out] at kc1_0p
    have kc1_1p := kc1_1; rw [HW8.out] at kc1_1p
    have kc2_0p := kc2_0; rw [HW8.out] at kc2_0p
    have kc2_1p := kc2_1; rw [HW8.out] at kc2_1p
    have kc2_2p := kc2_2; rw [HW8.out] at kc2_2p
    go_wp2_with fail
    rw [← HW8.out]; clear HW8
    clear kc0_0 kc0_1 kc0_2 kc1_0 kc1_1 kc2_0 kc2_1 kc2_2 kc0_0p kc0_1p kc0_2p kc1_0p kc1_1p kc2_0p kc2_1p kc2_2p
    refine (toIntS_any _ d1 _ _ _ (IntS.below H1.out hbw8 (Nat.le_refl _)) (by omega) (by omega)).mono ?_
    rintro e w9 ⟨r9, rfl, hr9, hb9⟩
    have hs9 := hb9.size
    have hbw9 := hbw8.trans (hb9.mono (by omega))
    clear hbw8
    have R5_0_9 := Lib.hid (DecX.below R5_0_8.out hb9 (by omega)); clear R5_0_8
    have R7_9 := Lib.hid (NetX.below R7_8.out hb9 (by omega)); clear R7_8
    have BX1_9 := BX1_8.below hb9 (by omega); clear BX1_8
    have BX6_9 := BX6_8.below hb9 (by omega); clear BX6_8
    have BX8_9 := BX8.below hb9 (by omega); clear BX8
    have R9 := Lib.hid hr9
    obtain ⟨Ar9, cr9, rfl⟩ := hr9.shape
    clear hr9
    obtain ⟨kc0_0, kc0_1, kc0_2⟩ := BX1_9.cells
    obtain ⟨kc1_0, kc1_1⟩ := BX6_9.cells
    obtain ⟨kc2_0, kc2_1, kc2_2⟩ := BX8_9.cells
    go_wp2_with fail
    clear kc0_0 kc0_1 kc0_2 kc1_0 kc1_1 kc2_0 kc2_1 kc2_2
    refine (BallCarving_impl _ d0 _ _ _ d1 _ _ _ R7_9.out.net (by omega) R9.out (by omega) (by omega) (by omega) I0.out I1.out).mono ?_
    rintro e w10 ⟨r10_0, rfl, hr10_0, hb10⟩
    have hs10 := hb10.size
    have hbw10 := hbw9.trans (hb10.mono (by omega))
    clear hbw9
    have R5_0_10 := Lib.hid (DecX.below R5_0_9.out hb10 (by omega)); clear R5_0_9
    have R7_10 := Lib.hid (NetX.below R7_9.out hb10 (by omega)); clear R7_9
    have R9_10 := Lib.hid (IntS.below R9.out hb10 (by omega)); clear R9
    have BX1_10 := BX1_9.below hb10 (by omega); clear BX1_9
    have BX6_10 := BX6_9.below hb10 (by omega); clear BX6_9
    have BX8_10 := BX8_9.below hb10 (by omega); clear BX8_9
    have R10_0 := Lib.hid hr10_0
    obtain ⟨Ar10_0, cr10_0, Ar10_0', cr10_0', rfl, _⟩ := hr10_0.dec.parts
    clear hr10_0
    obtain ⟨w11, HW11⟩ : ∃ W, Hid (W = w10.alloc (.cells #[.slice Ar10_0 (carOut d0 d1).cluster.length cr10_0, .slice Ar10_0' (carOut d0 d1).colour.length cr10_0'] 36)) := ⟨_, Lib.hid rfl⟩
    have hb11 : Below w10.heap.size w10 w11 := by rw [HW11.out]; exact below_a1 _ _
    have hz11 : w10.heap.size + 1 ≤ w11.heap.size := by rw [HW11.out]; simp
    have hs11 := hb11.size
    have hbw11 := hbw10.trans (hb11.mono (by omega))
    clear hbw10
    have R5_0_11 := Lib.hid (DecX.below R5_0_10.out hb11 (by omega)); clear R5_0_10
    have R7_11 := Lib.hid (NetX.below R7_10.out hb11 (by omega)); clear R7_10
    have R9_11 := Lib.hid (IntS.below R9_10.out hb11 (by omega)); clear R9_10
    have R10_0_11 := Lib.hid (DecX.below R10_0.out hb11 (by omega)); clear R10_0
    have BX1_11 := BX1_10.below hb11 (by omega); clear BX1_10
    have BX6_11 := BX6_10.below hb11 (by omega); clear BX6_10
    have BX8_11 := BX8_10.below hb11 (by omega); clear BX8_10
    have BX11 : Box2 w11 w10.heap.size 36 (.slice Ar10_0 (carOut d0 d1).cluster.length cr10_0) (.slice Ar10_0' (carOut d0 d1).colour.length cr10_0') := by rw [HW11.out]; exact Box2.new _ _ _ _
    obtain ⟨kc0_0, kc0_1, kc0_2⟩ := BX1_11.cells
    obtain ⟨kc1_0, kc1_1⟩ := BX6_11.cells
    obtain ⟨kc2_0, kc2_1, kc2_2⟩ := BX8_11.cells
    obtain ⟨kc3_0, kc3_1⟩ := BX11.cells
    have kc0_0p := kc0_0; rw [HW11.out] at kc0_0p
    have kc0_1p := kc0_1; rw [HW11.out] at kc0_1p
    have kc0_2p := kc0_2; rw [HW11.out] at kc0_2p
    have kc1_0p := kc1_0; rw [HW11.out] at kc1_0p
    have kc1_1p := kc1_1; rw [HW11.out] at kc1_1p
    have kc2_0p := kc2_0; rw [HW11.out] at kc2_0p
    have kc2_1p := kc2_1; rw [HW11.out] at kc2_1p
    have kc2_2p := kc2_2; rw [HW11.out] at kc2_2p
    have kc3_0p := kc3_0; rw [HW11.out] at kc3_0p
    have kc3_1p := kc3_1; rw [HW11.out] at kc3_1p
    go_wp2_with fail
    rw [← HW11.out]; clear HW11
    clear kc0_0 kc0_1 kc0_2 kc1_0 kc1_1 kc2_0 kc2_1 kc2_2 kc3_0 kc3_1 kc0_0p kc0_1p kc0_2p kc1_0p kc1_1p kc2_0p kc2_1p kc2_2p kc3_0p kc3_1p
    refine (eqDecomposition_same _ _ (carOut d0 d1) _ _ _ _ _ R10_0_11.out.dec R5_0_11.out.dec (by omega) (by omega)).mono ?_
    rintro e w12 ⟨rfl, hb12⟩
    have hs12 := hb12.size
    have hbw12 := hbw11.trans (hb12.mono (by omega))
    clear hbw11
    have R5_0_12 := Lib.hid (DecX.below R5_0_11.out hb12 (by omega)); clear R5_0_11
    have R7_12 := Lib.hid (NetX.below R7_11.out hb12 (by omega)); clear R7_11
    have R9_12 := Lib.hid (IntS.below R9_11.out hb12 (by omega)); clear R9_11
    have R10_0_12 := Lib.hid (DecX.below R10_0_11.out hb12 (by omega)); clear R10_0_11
    have BX1_12 := BX1_11.below hb12 (by omega); clear BX1_11
    have BX6_12 := BX6_11.below hb12 (by omega); clear BX6_11
    have BX8_12 := BX8_11.below hb12 (by omega); clear BX8_11
    have BX11_12 := BX11.below hb12 (by omega); clear BX11
    obtain ⟨kc0_0, kc0_1, kc0_2⟩ := BX1_12.cells
    obtain ⟨kc1_0, kc1_1⟩ := BX6_12.cells
    obtain ⟨kc2_0, kc2_1, kc2_2⟩ := BX8_12.cells
    obtain ⟨kc3_0, kc3_1⟩ := BX11_12.cells
    go_wp2_with fail
    have hq13 : w12.heap.size ≤ w12.heap.size := Nat.le_refl _
    go_region_held3 (fun w' => w'.cell? ⟨w.heap.size, 0, none⟩ = some (.slice A0 d0.ends.length c0) ∧ w'.cell? ⟨w.heap.size, 1, none⟩ = some (.slice A0' d0.ids.length c0') ∧ w'.cell? ⟨w.heap.size, 2, none⟩ = some (.slice A0'' d0.inputs.length c0'') ∧ w'.cell? ⟨w5.heap.size, 0, none⟩ = some (.slice Ar5_0 (carOut d0 d1).cluster.length cr5_0) ∧ w'.cell? ⟨w5.heap.size, 1, none⟩ = some (.slice Ar5_0' (carOut d0 d1).colour.length cr5_0') ∧ w'.cell? ⟨w7.heap.size, 0, none⟩ = some (.slice Ar7 d0.ends.length cr7) ∧ w'.cell? ⟨w7.heap.size, 1, none⟩ = some (.slice Ar7' d0.ids.length cr7') ∧ w'.cell? ⟨w7.heap.size, 2, none⟩ = some (.slice Ar7'' d0.inputs.length cr7'') ∧ w'.cell? ⟨w10.heap.size, 0, none⟩ = some (.slice Ar10_0 (carOut d0 d1).cluster.length cr10_0) ∧ w'.cell? ⟨w10.heap.size, 1, none⟩ = some (.slice Ar10_0' (carOut d0 d1).colour.length cr10_0'))
      (first | exact ⟨kc0_0, kc0_1, kc0_2, kc1_0, kc1_1, kc2_0, kc2_1, kc2_2, kc3_0, kc3_1⟩ | exact ⟨(hb13.cell (p := ⟨w.heap.size, 0, none⟩) (by show w.heap.size < w12.heap.size; omega)).trans kc0_0, (hb13.cell (p := ⟨w.heap.size, 1, none⟩) (by show w.heap.size < w12.heap.size; omega)).trans kc0_1, (hb13.cell (p := ⟨w.heap.size, 2, none⟩) (by show w.heap.size < w12.heap.size; omega)).trans kc0_2, (hb13.cell (p := ⟨w5.heap.size, 0, none⟩) (by show w5.heap.size < w12.heap.size; omega)).trans kc1_0, (hb13.cell (p := ⟨w5.heap.size, 1, none⟩) (by show w5.heap.size < w12.heap.size; omega)).trans kc1_1, (hb13.cell (p := ⟨w7.heap.size, 0, none⟩) (by show w7.heap.size < w12.heap.size; omega)).trans kc2_0, (hb13.cell (p := ⟨w7.heap.size, 1, none⟩) (by show w7.heap.size < w12.heap.size; omega)).trans kc2_1, (hb13.cell (p := ⟨w7.heap.size, 2, none⟩) (by show w7.heap.size < w12.heap.size; omega)).trans kc2_2, (hb13.cell (p := ⟨w10.heap.size, 0, none⟩) (by show w10.heap.size < w12.heap.size; omega)).trans kc3_0, (hb13.cell (p := ⟨w10.heap.size, 1, none⟩) (by show w10.heap.size < w12.heap.size; omega)).trans kc3_1⟩ | exact ⟨kq13_0, kq13_1, kq13_2, kq13_3, kq13_4, kq13_5, kq13_6, kq13_7, kq13_8, kq13_9⟩)
      (first | (go_at_call 8; refine (toNetwork_any _ d0 _ _ _ (Net.below H0.out hbw12.drew (Nat.le_refl _)) (by show _ ≤ w12.heap.size; omega) (by omega)).mono ?_; rintro e w13 ⟨r13, rfl, hr13, hbd13⟩; have hb13 : Below w12.heap.size w12 w13 := (Below.refl _ _).drew.trans hbd13; clear hbd13; have R13 := Lib.hid hr13; obtain ⟨Ar13, cr13, Ar13', cr13', Ar13'', cr13'', rfl, _⟩ := hr13.net.parts; clear hr13) | (go_at_call 11; refine (eqNetwork_same _ _ d0 _ _ _ _ _ (Net.below (R7_12.out.net) hb13 (by show _ ≤ w12.heap.size; omega)) (R13.out.net) (by have := hb13.size; show _ ≤ w13.heap.size; exact Nat.le_trans (by show _ ≤ w12.heap.size; omega) this) (Nat.le_refl _)).mono ?_; rintro e wq13 ⟨rfl, hbq13⟩; have kq13_0 := (hbq13.cell (p := ⟨w.heap.size, 0, none⟩) (by have := hb13.size; show w.heap.size < w13.heap.size; exact Nat.lt_of_lt_of_le (by show w.heap.size < w12.heap.size; omega) this)).trans ((hb13.cell (p := ⟨w.heap.size, 0, none⟩) (by show w.heap.size < w12.heap.size; omega)).trans kc0_0); have kq13_1 := (hbq13.cell (p := ⟨w.heap.size, 1, none⟩) (by have := hb13.size; show w.heap.size < w13.heap.size; exact Nat.lt_of_lt_of_le (by show w.heap.size < w12.heap.size; omega) this)).trans ((hb13.cell (p := ⟨w.heap.size, 1, none⟩) (by show w.heap.size < w12.heap.size; omega)).trans kc0_1); have kq13_2 := (hbq13.cell (p := ⟨w.heap.size, 2, none⟩) (by have := hb13.size; show w.heap.size < w13.heap.size; exact Nat.lt_of_lt_of_le (by show w.heap.size < w12.heap.size; omega) this)).trans ((hb13.cell (p := ⟨w.heap.size, 2, none⟩) (by show w.heap.size < w12.heap.size; omega)).trans kc0_2); have kq13_3 := (hbq13.cell (p := ⟨w5.heap.size, 0, none⟩) (by have := hb13.size; show w5.heap.size < w13.heap.size; exact Nat.lt_of_lt_of_le (by show w5.heap.size < w12.heap.size; omega) this)).trans ((hb13.cell (p := ⟨w5.heap.size, 0, none⟩) (by show w5.heap.size < w12.heap.size; omega)).trans kc1_0); have kq13_4 := (hbq13.cell (p := ⟨w5.heap.size, 1, none⟩) (by have := hb13.size; show w5.heap.size < w13.heap.size; exact Nat.lt_of_lt_of_le (by show w5.heap.size < w12.heap.size; omega) this)).trans ((hb13.cell (p := ⟨w5.heap.size, 1, none⟩) (by show w5.heap.size < w12.heap.size; omega)).trans kc1_1); have kq13_5 := (hbq13.cell (p := ⟨w7.heap.size, 0, none⟩) (by have := hb13.size; show w7.heap.size < w13.heap.size; exact Nat.lt_of_lt_of_le (by show w7.heap.size < w12.heap.size; omega) this)).trans ((hb13.cell (p := ⟨w7.heap.size, 0, none⟩) (by show w7.heap.size < w12.heap.size; omega)).trans kc2_0); have kq13_6 := (hbq13.cell (p := ⟨w7.heap.size, 1, none⟩) (by have := hb13.size; show w7.heap.size < w13.heap.size; exact Nat.lt_of_lt_of_le (by show w7.heap.size < w12.heap.size; omega) this)).trans ((hb13.cell (p := ⟨w7.heap.size, 1, none⟩) (by show w7.heap.size < w12.heap.size; omega)).trans kc2_1); have kq13_7 := (hbq13.cell (p := ⟨w7.heap.size, 2, none⟩) (by have := hb13.size; show w7.heap.size < w13.heap.size; exact Nat.lt_of_lt_of_le (by show w7.heap.size < w12.heap.size; omega) this)).trans ((hb13.cell (p := ⟨w7.heap.size, 2, none⟩) (by show w7.heap.size < w12.heap.size; omega)).trans kc2_2); have kq13_8 := (hbq13.cell (p := ⟨w10.heap.size, 0, none⟩) (by have := hb13.size; show w10.heap.size < w13.heap.size; exact Nat.lt_of_lt_of_le (by show w10.heap.size < w12.heap.size; omega) this)).trans ((hb13.cell (p := ⟨w10.heap.size, 0, none⟩) (by show w10.heap.size < w12.heap.size; omega)).trans kc3_0); have kq13_9 := (hbq13.cell (p := ⟨w10.heap.size, 1, none⟩) (by have := hb13.size; show w10.heap.size < w13.heap.size; exact Nat.lt_of_lt_of_le (by show w10.heap.size < w12.heap.size; omega) this)).trans ((hb13.cell (p := ⟨w10.heap.size, 1, none⟩) (by show w10.heap.size < w12.heap.size; omega)).trans kc3_1)))
    clear kc0_0 kc0_1 kc0_2 kc1_0 kc1_1 kc2_0 kc2_1 kc2_2 kc3_0 kc3_1 hq13 kq13_0 kq13_1 kq13_2 kq13_3 kq13_4 kq13_5 kq13_6 kq13_7 kq13_8 kq13_9
    clear R13
    have hbz13 : Below w12.heap.size w12 wq13 := Below.trans hb13 (hbq13.mono hb13.size)
    clear hb13 hbq13
    have hs13 := hbz13.size
    have hbw13 := hbw12.trans (hbz13.mono (by omega))
    clear hbw12
    have R5_0_13 := Lib.hid (DecX.below R5_0_12.out hbz13 (by omega)); clear R5_0_12
    have R7_13 := Lib.hid (NetX.below R7_12.out hbz13 (by omega)); clear R7_12
    have R9_13 := Lib.hid (IntS.below R9_12.out hbz13 (by omega)); clear R9_12
    have R10_0_13 := Lib.hid (DecX.below R10_0_12.out hbz13 (by omega)); clear R10_0_12
    have BX1_13 := BX1_12.below hbz13 (by omega); clear BX1_12
    have BX6_13 := BX6_12.below hbz13 (by omega); clear BX6_12
    have BX8_13 := BX8_12.below hbz13 (by omega); clear BX8_12
    have BX11_13 := BX11_12.below hbz13 (by omega); clear BX11_12
    obtain ⟨kc0_0, kc0_1, kc0_2⟩ := BX1_13.cells
    obtain ⟨kc1_0, kc1_1⟩ := BX6_13.cells
    obtain ⟨kc2_0, kc2_1, kc2_2⟩ := BX8_13.cells
    obtain ⟨kc3_0, kc3_1⟩ := BX11_13.cells
    go_wp2_with fail
    clear kc0_0 kc0_1 kc0_2 kc1_0 kc1_1 kc2_0 kc2_1 kc2_2 kc3_0 kc3_1
    refine (toIntS_any _ d1 _ _ _ (IntS.below H1.out hbw13 (Nat.le_refl _)) (by omega) (by omega)).mono ?_
    rintro e w14 ⟨r14, rfl, hr14, hb14⟩
    have hs14 := hb14.size
    have hbw14 := hbw13.trans (hb14.mono (by omega))
    clear hbw13
    have R5_0_14 := Lib.hid (DecX.below R5_0_13.out hb14 (by omega)); clear R5_0_13
    have R7_14 := Lib.hid (NetX.below R7_13.out hb14 (by omega)); clear R7_13
    have R9_14 := Lib.hid (IntS.below R9_13.out hb14 (by omega)); clear R9_13
    have R10_0_14 := Lib.hid (DecX.below R10_0_13.out hb14 (by omega)); clear R10_0_13
    have BX1_14 := BX1_13.below hb14 (by omega); clear BX1_13
    have BX6_14 := BX6_13.below hb14 (by omega); clear BX6_13
    have BX8_14 := BX8_13.below hb14 (by omega); clear BX8_13
    have BX11_14 := BX11_13.below hb14 (by omega); clear BX11_13
    have R14 := Lib.hid hr14
    obtain ⟨Ar14, cr14, rfl⟩ := hr14.shape
    clear hr14
    obtain ⟨kc0_0, kc0_1, kc0_2⟩ := BX1_14.cells
    obtain ⟨kc1_0, kc1_1⟩ := BX6_14.cells
    obtain ⟨kc2_0, kc2_1, kc2_2⟩ := BX8_14.cells
    obtain ⟨kc3_0, kc3_1⟩ := BX11_14.cells
    go_wp2_with fail
    clear kc0_0 kc0_1 kc0_2 kc1_0 kc1_1 kc2_0 kc2_1 kc2_2 kc3_0 kc3_1
    refine (eqIntS_same _ _ d1 _ _ _ _ _ R9_14.out R14.out (by omega) (by omega)).mono ?_
    rintro e w15 ⟨rfl, hb15⟩
    have hs15 := hb15.size
    have hbw15 := hbw14.trans (hb15.mono (by omega))
    clear hbw14
    have R5_0_15 := Lib.hid (DecX.below R5_0_14.out hb15 (by omega)); clear R5_0_14
    have R7_15 := Lib.hid (NetX.below R7_14.out hb15 (by omega)); clear R7_14
    have R9_15 := Lib.hid (IntS.below R9_14.out hb15 (by omega)); clear R9_14
    have R10_0_15 := Lib.hid (DecX.below R10_0_14.out hb15 (by omega)); clear R10_0_14
    have R14_15 := Lib.hid (IntS.below R14.out hb15 (by omega)); clear R14
    have BX1_15 := BX1_14.below hb15 (by omega); clear BX1_14
    have BX6_15 := BX6_14.below hb15 (by omega); clear BX6_14
    have BX8_15 := BX8_14.below hb15 (by omega); clear BX8_14
    have BX11_15 := BX11_14.below hb15 (by omega); clear BX11_14
    clear R14_15
    obtain ⟨kc0_0, kc0_1, kc0_2⟩ := BX1_15.cells
    obtain ⟨kc1_0, kc1_1⟩ := BX6_15.cells
    obtain ⟨kc2_0, kc2_1, kc2_2⟩ := BX8_15.cells
    obtain ⟨kc3_0, kc3_1⟩ := BX11_15.cells
    go_wp2_with fail
    clear kc0_0 kc0_1 kc0_2 kc1_0 kc1_1 kc2_0 kc2_1 kc2_2 kc3_0 kc3_1
    refine (markNetwork_any _ d0 _ _ _ _ R7_15.out (by omega) (by omega) (by omega) (by omega)).mono ?_
    rintro e w16 ⟨rfl, hr16, ht16⟩
    have hs16 := ht16.size
    have hbw16 := hbw15.trans ((ht16.below (by omega)).mono (by omega))
    clear hbw15
    have R5_0_16 := Lib.hid (DecX.turned R5_0_15.out ht16 (by omega) (by omega)); clear R5_0_15
    have R9_16 := Lib.hid (IntS.turned R9_15.out ht16 (by omega) (by omega)); clear R9_15
    have R10_0_16 := Lib.hid (DecX.turned R10_0_15.out ht16 (by omega) (by omega)); clear R10_0_15
    have BX1_16 : Box3 w16 w.heap.size 25 (.slice A0 d0.ends.length c0) (.slice A0' d0.ids.length c0') (.slice A0'' d0.inputs.length c0'') := (ht16.block _ (by omega) (by omega)).trans BX1_15; clear BX1_15
    have BX6_16 : Box2 w16 w5.heap.size 36 (.slice Ar5_0 (carOut d0 d1).cluster.length cr5_0) (.slice Ar5_0' (carOut d0 d1).colour.length cr5_0') := (ht16.block _ (by omega) (by omega)).trans BX6_15; clear BX6_15
    have BX8_16 : Box3 w16 w7.heap.size 34 (.slice Ar7 d0.ends.length cr7) (.slice Ar7' d0.ids.length cr7') (.slice Ar7'' d0.inputs.length cr7'') := (ht16.block _ (by omega) (by omega)).trans BX8_15; clear BX8_15
    have BX11_16 : Box2 w16 w10.heap.size 36 (.slice Ar10_0 (carOut d0 d1).cluster.length cr10_0) (.slice Ar10_0' (carOut d0 d1).colour.length cr10_0') := (ht16.block _ (by omega) (by omega)).trans BX11_15; clear BX11_15
    clear R7_15
    have R7_16 := Lib.hid hr16; clear hr16
    obtain ⟨kc0_0, kc0_1, kc0_2⟩ := BX1_16.cells
    obtain ⟨kc1_0, kc1_1⟩ := BX6_16.cells
    obtain ⟨kc2_0, kc2_1, kc2_2⟩ := BX8_16.cells
    obtain ⟨kc3_0, kc3_1⟩ := BX11_16.cells
    go_wp2_with fail
    clear kc0_0 kc0_1 kc0_2 kc1_0 kc1_1 kc2_0 kc2_1 kc2_2 kc3_0 kc3_1
    refine (markIntS_any _ d1 _ _ _ _ R9_16.out (by omega) (by omega) (by omega) (by omega)).mono ?_
    rintro e w17 ⟨rfl, hr17, hg17, hzz17⟩
    have ht17 := Turned.of_row R9_16.out hg17; clear hg17 hzz17
    have hs17 := ht17.size
    have hbw17 := hbw16.trans ((ht17.below (by omega)).mono (by omega))
    clear hbw16
    have R5_0_17 := Lib.hid (DecX.turned R5_0_16.out ht17 (by omega) (by omega)); clear R5_0_16
    have R7_17 := Lib.hid (NetX.turned R7_16.out ht17 (by omega) (by omega)); clear R7_16
    have R10_0_17 := Lib.hid (DecX.turned R10_0_16.out ht17 (by omega) (by omega)); clear R10_0_16
    have BX1_17 : Box3 w17 w.heap.size 25 (.slice A0 d0.ends.length c0) (.slice A0' d0.ids.length c0') (.slice A0'' d0.inputs.length c0'') := (ht17.block _ (by omega) (by omega)).trans BX1_16; clear BX1_16
    have BX6_17 : Box2 w17 w5.heap.size 36 (.slice Ar5_0 (carOut d0 d1).cluster.length cr5_0) (.slice Ar5_0' (carOut d0 d1).colour.length cr5_0') := (ht17.block _ (by omega) (by omega)).trans BX6_16; clear BX6_16
    have BX8_17 : Box3 w17 w7.heap.size 34 (.slice Ar7 d0.ends.length cr7) (.slice Ar7' d0.ids.length cr7') (.slice Ar7'' d0.inputs.length cr7'') := (ht17.block _ (by omega) (by omega)).trans BX8_16; clear BX8_16
    have BX11_17 : Box2 w17 w10.heap.size 36 (.slice Ar10_0 (carOut d0 d1).cluster.length cr10_0) (.slice Ar10_0' (carOut d0 d1).colour.length cr10_0') := (ht17.block _ (by omega) (by omega)).trans BX11_16; clear BX11_16
    clear R9_16
    have R9_17 := Lib.hid hr17; clear hr17
    obtain ⟨kc0_0, kc0_1, kc0_2⟩ := BX1_17.cells
    obtain ⟨kc1_0, kc1_1⟩ := BX6_17.cells
    obtain ⟨kc2_0, kc2_1, kc2_2⟩ := BX8_17.cells
    obtain ⟨kc3_0, kc3_1⟩ := BX11_17.cells
    go_wp2_with fail
    clear kc0_0 kc0_1 kc0_2 kc1_0 kc1_1 kc2_0 kc2_1 kc2_2 kc3_0 kc3_1
    refine (eqDecomposition_same _ _ (carOut d0 d1) _ _ _ _ _ R10_0_17.out.dec R5_0_17.out.dec (by omega) (by omega)).mono ?_
    rintro e w18 ⟨rfl, hb18⟩
    have hs18 := hb18.size
    have hbw18 := hbw17.trans (hb18.mono (by omega))
    clear hbw17
    have R5_0_18 := Lib.hid (DecX.below R5_0_17.out hb18 (by omega)); clear R5_0_17
    have R7_18 := Lib.hid (NetX.below R7_17.out hb18 (by omega)); clear R7_17
    have R9_18 := Lib.hid (IntS.below R9_17.out hb18 (by omega)); clear R9_17
    have R10_0_18 := Lib.hid (DecX.below R10_0_17.out hb18 (by omega)); clear R10_0_17
    have BX1_18 := BX1_17.below hb18 (by omega); clear BX1_17
    have BX6_18 := BX6_17.below hb18 (by omega); clear BX6_17
    have BX8_18 := BX8_17.below hb18 (by omega); clear BX8_17
    have BX11_18 := BX11_17.below hb18 (by omega); clear BX11_17
    obtain ⟨kc0_0, kc0_1, kc0_2⟩ := BX1_18.cells
    obtain ⟨kc1_0, kc1_1⟩ := BX6_18.cells
    obtain ⟨kc2_0, kc2_1, kc2_2⟩ := BX8_18.cells
    obtain ⟨kc3_0, kc3_1⟩ := BX11_18.cells
    go_wp2_with fail
    clear kc0_0 kc0_1 kc0_2 kc1_0 kc1_1 kc2_0 kc2_1 kc2_2 kc3_0 kc3_1
    refine (markDecomposition_any _ (carOut d0 d1) _ _ _ _ R10_0_18.out (by omega) (by omega) (by omega) (by omega)).mono ?_
    rintro e w19 ⟨rfl, hr19, ht19⟩
    have hs19 := ht19.size
    have hbw19 := hbw18.trans ((ht19.below (by omega)).mono (by omega))
    clear hbw18
    have R5_0_19 := Lib.hid (DecX.turned R5_0_18.out ht19 (by omega) (by omega)); clear R5_0_18
    have R7_19 := Lib.hid (NetX.turned R7_18.out ht19 (by omega) (by omega)); clear R7_18
    have R9_19 := Lib.hid (IntS.turned R9_18.out ht19 (by omega) (by omega)); clear R9_18
    have BX1_19 : Box3 w19 w.heap.size 25 (.slice A0 d0.ends.length c0) (.slice A0' d0.ids.length c0') (.slice A0'' d0.inputs.length c0'') := (ht19.block _ (by omega) (by omega)).trans BX1_18; clear BX1_18
    have BX6_19 : Box2 w19 w5.heap.size 36 (.slice Ar5_0 (carOut d0 d1).cluster.length cr5_0) (.slice Ar5_0' (carOut d0 d1).colour.length cr5_0') := (ht19.block _ (by omega) (by omega)).trans BX6_18; clear BX6_18
    have BX8_19 : Box3 w19 w7.heap.size 34 (.slice Ar7 d0.ends.length cr7) (.slice Ar7' d0.ids.length cr7') (.slice Ar7'' d0.inputs.length cr7'') := (ht19.block _ (by omega) (by omega)).trans BX8_18; clear BX8_18
    have BX11_19 : Box2 w19 w10.heap.size 36 (.slice Ar10_0 (carOut d0 d1).cluster.length cr10_0) (.slice Ar10_0' (carOut d0 d1).colour.length cr10_0') := (ht19.block _ (by omega) (by omega)).trans BX11_18; clear BX11_18
    clear R10_0_18
    have R10_0_19 := Lib.hid hr19; clear hr19
    obtain ⟨kc0_0, kc0_1, kc0_2⟩ := BX1_19.cells
    obtain ⟨kc1_0, kc1_1⟩ := BX6_19.cells
    obtain ⟨kc2_0, kc2_1, kc2_2⟩ := BX8_19.cells
    obtain ⟨kc3_0, kc3_1⟩ := BX11_19.cells
    go_wp2_with fail
    clear kc0_0 kc0_1 kc0_2 kc1_0 kc1_1 kc2_0 kc2_1 kc2_2 kc3_0 kc3_1
    refine (heldDecomposition_yes _ (carOut d0 d1) _ _ _ _ R10_0_19.out.dec (by omega) (by omega) (by omega) (by omega)).mono ?_
    rintro e w20 ⟨rfl, hb20⟩
    have hs20 := hb20.size
    have hbw20 := hbw19.trans (hb20.mono (by omega))
    clear hbw19
    have R5_0_20 := Lib.hid (DecX.below R5_0_19.out hb20 (by omega)); clear R5_0_19
    have R7_20 := Lib.hid (NetX.below R7_19.out hb20 (by omega)); clear R7_19
    have R9_20 := Lib.hid (IntS.below R9_19.out hb20 (by omega)); clear R9_19
    have R10_0_20 := Lib.hid (DecX.below R10_0_19.out hb20 (by omega)); clear R10_0_19
    have BX1_20 := BX1_19.below hb20 (by omega); clear BX1_19
    have BX6_20 := BX6_19.below hb20 (by omega); clear BX6_19
    have BX8_20 := BX8_19.below hb20 (by omega); clear BX8_19
    have BX11_20 := BX11_19.below hb20 (by omega); clear BX11_19
    obtain ⟨kc0_0, kc0_1, kc0_2⟩ := BX1_20.cells
    obtain ⟨kc1_0, kc1_1⟩ := BX6_20.cells
    obtain ⟨kc2_0, kc2_1, kc2_2⟩ := BX8_20.cells
    obtain ⟨kc3_0, kc3_1⟩ := BX11_20.cells
    go_wp2_with fail
    clear kc0_0 kc0_1 kc0_2 kc1_0 kc1_1 kc2_0 kc2_1 kc2_2 kc3_0 kc3_1
    refine (toNetwork_any _ d0 _ _ _ (Net.below H0.out hbw20 (Nat.le_refl _)) (by omega) (by omega)).mono ?_
    rintro e w21 ⟨r21, rfl, hr21, hb21⟩
    have hs21 := hb21.size
    have hbw21 := hbw20.trans (hb21.mono (by omega))
    clear hbw20
    have R5_0_21 := Lib.hid (DecX.below R5_0_20.out hb21 (by omega)); clear R5_0_20
    have R7_21 := Lib.hid (NetX.below R7_20.out hb21 (by omega)); clear R7_20
    have R9_21 := Lib.hid (IntS.below R9_20.out hb21 (by omega)); clear R9_20
    have R10_0_21 := Lib.hid (DecX.below R10_0_20.out hb21 (by omega)); clear R10_0_20
    have BX1_21 := BX1_20.below hb21 (by omega); clear BX1_20
    have BX6_21 := BX6_20.below hb21 (by omega); clear BX6_20
    have BX8_21 := BX8_20.below hb21 (by omega); clear BX8_20
    have BX11_21 := BX11_20.below hb21 (by omega); clear BX11_20
    have R21 := Lib.hid hr21
    obtain ⟨Ar21, cr21, Ar21', cr21', Ar21'', cr21'', rfl, _⟩ := hr21.net.parts
    clear hr21
    obtain ⟨kc0_0, kc0_1, kc0_2⟩ := BX1_21.cells
    obtain ⟨kc1_0, kc1_1⟩ := BX6_21.cells
    obtain ⟨kc2_0, kc2_1, kc2_2⟩ := BX8_21.cells
    obtain ⟨kc3_0, kc3_1⟩ := BX11_21.cells
    go_wp2_with fail
    clear kc0_0 kc0_1 kc0_2 kc1_0 kc1_1 kc2_0 kc2_1 kc2_2 kc3_0 kc3_1
    refine (toIntS_any _ d1 _ _ _ (IntS.below H1.out hbw21 (Nat.le_refl _)) (by omega) (by omega)).mono ?_
    rintro e w22 ⟨r22, rfl, hr22, hb22⟩
    have hs22 := hb22.size
    have hbw22 := hbw21.trans (hb22.mono (by omega))
    clear hbw21
    have R5_0_22 := Lib.hid (DecX.below R5_0_21.out hb22 (by omega)); clear R5_0_21
    have R7_22 := Lib.hid (NetX.below R7_21.out hb22 (by omega)); clear R7_21
    have R9_22 := Lib.hid (IntS.below R9_21.out hb22 (by omega)); clear R9_21
    have R10_0_22 := Lib.hid (DecX.below R10_0_21.out hb22 (by omega)); clear R10_0_21
    have R21_22 := Lib.hid (NetX.below R21.out hb22 (by omega)); clear R21
    have BX1_22 := BX1_21.below hb22 (by omega); clear BX1_21
    have BX6_22 := BX6_21.below hb22 (by omega); clear BX6_21
    have BX8_22 := BX8_21.below hb22 (by omega); clear BX8_21
    have BX11_22 := BX11_21.below hb22 (by omega); clear BX11_21
    have R22 := Lib.hid hr22
    obtain ⟨Ar22, cr22, rfl⟩ := hr22.shape
    clear hr22
    obtain ⟨kc0_0, kc0_1, kc0_2⟩ := BX1_22.cells
    obtain ⟨kc1_0, kc1_1⟩ := BX6_22.cells
    obtain ⟨kc2_0, kc2_1, kc2_2⟩ := BX8_22.cells
    obtain ⟨kc3_0, kc3_1⟩ := BX11_22.cells
    go_wp2_with fail
    clear kc0_0 kc0_1 kc0_2 kc1_0 kc1_1 kc2_0 kc2_1 kc2_2 kc3_0 kc3_1
    refine (BallCarving_impl _ d0 _ _ _ d1 _ _ _ R21_22.out.net (by omega) R22.out (by omega) (by omega) (by omega) I0.out I1.out).mono ?_
    rintro e w23 ⟨r23_0, rfl, hr23_0, hb23⟩
    have hs23 := hb23.size
    have hbw23 := hbw22.trans (hb23.mono (by omega))
    clear hbw22
    have R5_0_23 := Lib.hid (DecX.below R5_0_22.out hb23 (by omega)); clear R5_0_22
    have R7_23 := Lib.hid (NetX.below R7_22.out hb23 (by omega)); clear R7_22
    have R9_23 := Lib.hid (IntS.below R9_22.out hb23 (by omega)); clear R9_22
    have R10_0_23 := Lib.hid (DecX.below R10_0_22.out hb23 (by omega)); clear R10_0_22
    have R21_23 := Lib.hid (NetX.below R21_22.out hb23 (by omega)); clear R21_22
    have R22_23 := Lib.hid (IntS.below R22.out hb23 (by omega)); clear R22
    have BX1_23 := BX1_22.below hb23 (by omega); clear BX1_22
    have BX6_23 := BX6_22.below hb23 (by omega); clear BX6_22
    have BX8_23 := BX8_22.below hb23 (by omega); clear BX8_22
    have BX11_23 := BX11_22.below hb23 (by omega); clear BX11_22
    have R23_0 := Lib.hid hr23_0
    obtain ⟨Ar23_0, cr23_0, Ar23_0', cr23_0', rfl, _⟩ := hr23_0.dec.parts
    clear hr23_0
    obtain ⟨w24, HW24⟩ : ∃ W, Hid (W = w23.alloc (.cells #[.slice Ar23_0 (carOut d0 d1).cluster.length cr23_0, .slice Ar23_0' (carOut d0 d1).colour.length cr23_0'] 36)) := ⟨_, Lib.hid rfl⟩
    have hb24 : Below w23.heap.size w23 w24 := by rw [HW24.out]; exact below_a1 _ _
    have hz24 : w23.heap.size + 1 ≤ w24.heap.size := by rw [HW24.out]; simp
    have hs24 := hb24.size
    have hbw24 := hbw23.trans (hb24.mono (by omega))
    clear hbw23
    have R5_0_24 := Lib.hid (DecX.below R5_0_23.out hb24 (by omega)); clear R5_0_23
    have R7_24 := Lib.hid (NetX.below R7_23.out hb24 (by omega)); clear R7_23
    have R9_24 := Lib.hid (IntS.below R9_23.out hb24 (by omega)); clear R9_23
    have R10_0_24 := Lib.hid (DecX.below R10_0_23.out hb24 (by omega)); clear R10_0_23
    have R21_24 := Lib.hid (NetX.below R21_23.out hb24 (by omega)); clear R21_23
    have R22_24 := Lib.hid (IntS.below R22_23.out hb24 (by omega)); clear R22_23
    have R23_0_24 := Lib.hid (DecX.below R23_0.out hb24 (by omega)); clear R23_0
    have BX1_24 := BX1_23.below hb24 (by omega); clear BX1_23
    have BX6_24 := BX6_23.below hb24 (by omega); clear BX6_23
    have BX8_24 := BX8_23.below hb24 (by omega); clear BX8_23
    have BX11_24 := BX11_23.below hb24 (by omega); clear BX11_23
    have BX24 : Box2 w24 w23.heap.size 36 (.slice Ar23_0 (carOut d0 d1).cluster.length cr23_0) (.slice Ar23_0' (carOut d0 d1).colour.length cr23_0') := by rw [HW24.out]; exact Box2.new _ _ _ _
    clear R21_24
    clear R22_24
    obtain ⟨kc0_0, kc0_1, kc0_2⟩ := BX1_24.cells
    obtain ⟨kc1_0, kc1_1⟩ := BX6_24.cells
    obtain ⟨kc2_0, kc2_1, kc2_2⟩ := BX8_24.cells
    obtain ⟨kc3_0, kc3_1⟩ := BX11_24.cells
    obtain ⟨kc4_0, kc4_1⟩ := BX24.cells
    have kc0_0p := kc0_0; rw [HW24.out] at kc0_0p
    have kc0_1p := kc0_1; rw [HW24.out] at kc0_1p
    have kc0_2p := kc0_2; rw [HW24.out] at kc0_2p
    have kc1_0p := kc1_0; rw [HW24.out] at kc1_0p
    have kc1_1p := kc1_1; rw [HW24.out] at kc1_1p
    have kc2_0p := kc2_0; rw [HW24.out] at kc2_0p
    have kc2_1p := kc2_1; rw [HW24.out] at kc2_1p
    have kc2_2p := kc2_2; rw [HW24.out] at kc2_2p
    have kc3_0p := kc3_0; rw [HW24.out] at kc3_0p
    have kc3_1p := kc3_1; rw [HW24.out] at kc3_1p
    have kc4_0p := kc4_0; rw [HW24.out] at kc4_0p
    have kc4_1p := kc4_1; rw [HW24.out] at kc4_1p
    go_wp2_with fail
    rw [← HW24.out]; clear HW24
    clear kc0_0 kc0_1 kc0_2 kc1_0 kc1_1 kc2_0 kc2_1 kc2_2 kc3_0 kc3_1 kc4_0 kc4_1 kc0_0p kc0_1p kc0_2p kc1_0p kc1_1p kc2_0p kc2_1p kc2_2p kc3_0p kc3_1p kc4_0p kc4_1p
    refine (eqDecomposition_same _ _ (carOut d0 d1) _ _ _ _ _ R23_0_24.out.dec R5_0_24.out.dec (by omega) (by omega)).mono ?_
    rintro e w25 ⟨rfl, hb25⟩
    have hs25 := hb25.size
    have hbw25 := hbw24.trans (hb25.mono (by omega))
    clear hbw24
    have R5_0_25 := Lib.hid (DecX.below R5_0_24.out hb25 (by omega)); clear R5_0_24
    have R7_25 := Lib.hid (NetX.below R7_24.out hb25 (by omega)); clear R7_24
    have R9_25 := Lib.hid (IntS.below R9_24.out hb25 (by omega)); clear R9_24
    have R10_0_25 := Lib.hid (DecX.below R10_0_24.out hb25 (by omega)); clear R10_0_24
    have R23_0_25 := Lib.hid (DecX.below R23_0_24.out hb25 (by omega)); clear R23_0_24
    have BX1_25 := BX1_24.below hb25 (by omega); clear BX1_24
    have BX6_25 := BX6_24.below hb25 (by omega); clear BX6_24
    have BX8_25 := BX8_24.below hb25 (by omega); clear BX8_24
    have BX11_25 := BX11_24.below hb25 (by omega); clear BX11_24
    have BX24_25 := BX24.below hb25 (by omega); clear BX24
    obtain ⟨kc0_0, kc0_1, kc0_2⟩ := BX1_25.cells
    obtain ⟨kc1_0, kc1_1⟩ := BX6_25.cells
    obtain ⟨kc2_0, kc2_1, kc2_2⟩ := BX8_25.cells
    obtain ⟨kc3_0, kc3_1⟩ := BX11_25.cells
    obtain ⟨kc4_0, kc4_1⟩ := BX24_25.cells
    go_wp2_with fail
    clear kc0_0 kc0_1 kc0_2 kc1_0 kc1_1 kc2_0 kc2_1 kc2_2 kc3_0 kc3_1 kc4_0 kc4_1
    refine (heldDecomposition_yes _ (carOut d0 d1) _ _ _ _ R10_0_25.out.dec (by omega) (by omega) (by omega) (by omega)).mono ?_
    rintro e w26 ⟨rfl, hb26⟩
    have hs26 := hb26.size
    have hbw26 := hbw25.trans (hb26.mono (by omega))
    clear hbw25
    have R5_0_26 := Lib.hid (DecX.below R5_0_25.out hb26 (by omega)); clear R5_0_25
    have R7_26 := Lib.hid (NetX.below R7_25.out hb26 (by omega)); clear R7_25
    have R9_26 := Lib.hid (IntS.below R9_25.out hb26 (by omega)); clear R9_25
    have R10_0_26 := Lib.hid (DecX.below R10_0_25.out hb26 (by omega)); clear R10_0_25
    have R23_0_26 := Lib.hid (DecX.below R23_0_25.out hb26 (by omega)); clear R23_0_25
    have BX1_26 := BX1_25.below hb26 (by omega); clear BX1_25
    have BX6_26 := BX6_25.below hb26 (by omega); clear BX6_25
    have BX8_26 := BX8_25.below hb26 (by omega); clear BX8_25
    have BX11_26 := BX11_25.below hb26 (by omega); clear BX11_25
    have BX24_26 := BX24_25.below hb26 (by omega); clear BX24_25
    go_wp2_with fail
    go_ret
    exact ⟨rfl, hbw26⟩
end Go.Proofs.Ytcmmklcampmkjaa.fnExactBallCarving
