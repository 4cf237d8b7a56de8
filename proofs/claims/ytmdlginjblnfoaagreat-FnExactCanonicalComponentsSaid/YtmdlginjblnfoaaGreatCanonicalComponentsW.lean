/-
  For all arguments the program's CanonicalComponents returns what the reference's returns, leaves its arguments as they were, and returns memory of its own. No condition.
-/
import Derived.Test.YtmdlginjblnfoaaGreatCzX
import Derived.Test.YtmdlginjblnfoaaGreatCzY
import Derived.Deep.RegionHeld3
namespace Go.Proofs.YtmdlginjblnfoaaGreat.fnExactCanonicalComponents
open Go.ChangeShapes Go.WideShapes Go.ChangeAt Go.RowKit
set_option linter.unusedVariables false

theorem own : ownKnob Tryz.prog.godebug = none := by kernel_rfl
theorem laidOut : laidOutB Tryz.prog = true := by kernel_rfl

set_option maxHeartbeats 8000000 in
set_option maxRecDepth 100000 in
theorem walk (w : World) (v0 : Value) (d0 : NetD) (h0 : Net w 0 w.heap.size v0 d0) (i0 : d0.Ok) :
    Calls Tryz.prog 3 #[v0] w fun e w' => e = .returned (.bool true) ∧ Below w.heap.size w w' := by
  have H0 := Lib.hid h0
  obtain ⟨A0, c0, A0', c0', A0'', c0'', rfl, _⟩ := h0.parts
  clear h0
  have I0 := Lib.hid i0; clear i0
  have hdl := ccOut_sum d0
  have hcnt0 := NetD.cnt_le d0
  by_cases cond0 : d0.sz ≤ 1048576
  case neg =>
    obtain ⟨w1, HW1⟩ : ∃ W, Hid (W = w.alloc (.cells #[.slice A0 d0.ends.length c0, .slice A0' d0.ids.length c0', .slice A0'' d0.inputs.length c0''] 25)) := ⟨_, Lib.hid rfl⟩
    have hb1 : Below w.heap.size w w1 := by rw [HW1.out]; exact below_a1 _ _
    have hz1 : w.heap.size + 1 ≤ w1.heap.size := by rw [HW1.out]; simp
    have hs1 := hb1.size
    have hbw1 := hb1
    have BX1 : Box3 w1 w.heap.size 25 (.slice A0 d0.ends.length c0) (.slice A0' d0.ids.length c0') (.slice A0'' d0.inputs.length c0'') := by rw [HW1.out]; exact Box3.new _ _ _ _ _
    go_enter Tryz.func3, Tryz.ntmps3
    obtain ⟨kc0_0, kc0_1, kc0_2⟩ := BX1.cells
    go_wp2_with fail
    rw [← HW1.out]; clear HW1
    clear kc0_0 kc0_1 kc0_2
    refine (szNetwork_no _ d0 _ _ _ _ (Net.below H0.out hbw1 (Nat.le_refl _)) (by omega) (by omega) (by omega) (by omega)).mono ?_
    rintro e w2 ⟨rfl, hb2⟩
    have hs2 := hb2.size
    have hbw2 := hbw1.trans (hb2.mono (by omega))
    clear hbw1
    have BX1_2 := BX1.below hb2 (by omega); clear BX1
    obtain ⟨kc0_0, kc0_1, kc0_2⟩ := BX1_2.cells
    go_wp2_with fail
    clear kc0_0 kc0_1 kc0_2
    go_ret
    exact ⟨rfl, hbw2⟩
  case pos =>
    obtain ⟨w1, HW1⟩ : ∃ W, Hid (W = w.alloc (.cells #[.slice A0 d0.ends.length c0, .slice A0' d0.ids.length c0', .slice A0'' d0.inputs.length c0''] 25)) := ⟨_, Lib.hid rfl⟩
    have hb1 : Below w.heap.size w w1 := by rw [HW1.out]; exact below_a1 _ _
    have hz1 : w.heap.size + 1 ≤ w1.heap.size := by rw [HW1.out]; simp
    have hs1 := hb1.size
    have hbw1 := hb1
    have BX1 : Box3 w1 w.heap.size 25 (.slice A0 d0.ends.length c0) (.slice A0' d0.ids.length c0') (.slice A0'' d0.inputs.length c0'') := by rw [HW1.out]; exact Box3.new _ _ _ _ _
    go_enter Tryz.func3, Tryz.ntmps3
    obtain ⟨kc0_0, kc0_1, kc0_2⟩ := BX1.cells
    go_wp2_with fail
    rw [← HW1.out]; clear HW1
    clear kc0_0 kc0_1 kc0_2
    refine (szNetwork_yes _ d0 _ _ _ _ (Net.below H0.out hbw1 (Nat.le_refl _)) (by omega) (by omega) (by omega)).mono ?_
    rintro e w2 ⟨rfl, hb2⟩
    have hs2 := hb2.size
    have hbw2 := hbw1.trans (hb2.mono (by omega))
    clear hbw1
    have BX1_2 := BX1.below hb2 (by omega); clear BX1
    obtain ⟨kc0_0, kc0_1, kc0_2⟩ := BX1_2.cells
    go_wp2_with fail
    clear kc0_0 kc0_1 kc0_2
    refine (toNetwork_any _ d0 _ _ _ (Net.below H0.out hbw2 (Nat.le_refl _)) (by omega) (by omega)).mono ?_
    rintro e w3 ⟨r3, rfl, hr3, hb3⟩
    have hs3 := hb3.size
    have hbw3 := hbw2.trans (hb3.mono (by omega))
    clear hbw2
    have BX1_3 := BX1_2.below hb3 (by omega); clear BX1_2
    have R3 := Lib.hid hr3
    obtain ⟨Ar3, cr3, Ar3', cr3', Ar3'', cr3'', rfl, _⟩ := hr3.net.parts
    clear hr3
    obtain ⟨kc0_0, kc0_1, kc0_2⟩ := BX1_3.cells
    go_wp2_with fail
    clear kc0_0 kc0_1 kc0_2
    refine (CanonicalComponents_spec _ d0 _ _ _ R3.out.net (by omega) (by omega) I0.out).mono ?_
    rintro e w4 ⟨r4_0, rfl, hr4_0, hb4⟩
    have hs4 := hb4.size
    have hbw4 := hbw3.trans (hb4.mono (by omega))
    clear hbw3
    have R3_4 := Lib.hid (NetX.below R3.out hb4 (by omega)); clear R3
    have BX1_4 := BX1_3.below hb4 (by omega); clear BX1_3
    have R4_0 := Lib.hid hr4_0
    obtain ⟨Ar4_0, cr4_0, rfl⟩ := hr4_0.netS.shape
    clear hr4_0
    clear R3_4
    obtain ⟨kc0_0, kc0_1, kc0_2⟩ := BX1_4.cells
    go_wp2_with fail
    clear kc0_0 kc0_1 kc0_2
    refine (toNetwork_any _ d0 _ _ _ (Net.below H0.out hbw4 (Nat.le_refl _)) (by omega) (by omega)).mono ?_
    rintro e w5 ⟨r5, rfl, hr5, hb5⟩
    have hs5 := hb5.size
    have hbw5 := hbw4.trans (hb5.mono (by omega))
    clear hbw4
    have R4_0_5 := Lib.hid (NetSX.below R4_0.out hb5 (by omega)); clear R4_0
    have BX1_5 := BX1_4.below hb5 (by omega); clear BX1_4
    have R5 := Lib.hid hr5
    obtain ⟨Ar5, cr5, Ar5', cr5', Ar5'', cr5'', rfl, _⟩ := hr5.net.parts
    clear hr5
    obtain ⟨w6, HW6⟩ : ∃ W, Hid (W = w5.alloc (.cells #[.slice Ar5 d0.ends.length cr5, .slice Ar5' d0.ids.length cr5', .slice Ar5'' d0.inputs.length cr5''] 32)) := ⟨_, Lib.hid rfl⟩
    have hb6 : Below w5.heap.size w5 w6 := by rw [HW6.out]; exact below_a1 _ _
    have hz6 : w5.heap.size + 1 ≤ w6.heap.size := by rw [HW6.out]; simp
    have hs6 := hb6.size
    have hbw6 := hbw5.trans (hb6.mono (by omega))
    clear hbw5
    have R4_0_6 := Lib.hid (NetSX.below R4_0_5.out hb6 (by omega)); clear R4_0_5
    have R5_6 := Lib.hid (NetX.below R5.out hb6 (by omega)); clear R5
    have BX1_6 := BX1_5.below hb6 (by omega); clear BX1_5
    have BX6 : Box3 w6 w5.heap.size 32 (.slice Ar5 d0.ends.length cr5) (.slice Ar5' d0.ids.length cr5') (.slice Ar5'' d0.inputs.length cr5'') := by rw [HW6.out]; exact Box3.new _ _ _ _ _
    obtain ⟨kc0_0, kc0_1, kc0_2⟩ := BX1_6.cells
    obtain ⟨kc1_0, kc1_1, kc1_2⟩ := BX6.cells
    go_wp2_with fail
    rw [← HW6.out]; clear HW6
    clear kc0_0 kc0_1 kc0_2 kc1_0 kc1_1 kc1_2
    refine (CanonicalComponents_impl _ d0 _ _ _ R5_6.out.net (by omega) (by omega) I0.out).mono ?_
    rintro e w7 ⟨r7_0, rfl, hr7_0, hb7⟩
    have hs7 := hb7.size
    have hbw7 := hbw6.trans (hb7.mono (by omega))
    clear hbw6
    have R4_0_7 := Lib.hid (NetSX.below R4_0_6.out hb7 (by omega)); clear R4_0_6
    have R5_7 := Lib.hid (NetX.below R5_6.out hb7 (by omega)); clear R5_6
    have BX1_7 := BX1_6.below hb7 (by omega); clear BX1_6
    have BX6_7 := BX6.below hb7 (by omega); clear BX6
    have R7_0 := Lib.hid hr7_0
    obtain ⟨Ar7_0, cr7_0, rfl⟩ := hr7_0.netS.shape
    clear hr7_0
    obtain ⟨kc0_0, kc0_1, kc0_2⟩ := BX1_7.cells
    obtain ⟨kc1_0, kc1_1, kc1_2⟩ := BX6_7.cells
    go_wp2_with fail
    clear kc0_0 kc0_1 kc0_2 kc1_0 kc1_1 kc1_2
    refine (eqNetworkS_same _ _ (ccOut d0) _ _ _ _ _ R7_0.out.netS R4_0_7.out.netS (by omega) (by omega)).mono ?_
    rintro e w8 ⟨rfl, hb8⟩
    have hs8 := hb8.size
    have hbw8 := hbw7.trans (hb8.mono (by omega))
    clear hbw7
    have R4_0_8 := Lib.hid (NetSX.below R4_0_7.out hb8 (by omega)); clear R4_0_7
    have R5_8 := Lib.hid (NetX.below R5_7.out hb8 (by omega)); clear R5_7
    have R7_0_8 := Lib.hid (NetSX.below R7_0.out hb8 (by omega)); clear R7_0
    have BX1_8 := BX1_7.below hb8 (by omega); clear BX1_7
    have BX6_8 := BX6_7.below hb8 (by omega); clear BX6_7
    obtain ⟨kc0_0, kc0_1, kc0_2⟩ := BX1_8.cells
    obtain ⟨kc1_0, kc1_1, kc1_2⟩ := BX6_8.cells
    go_wp2_with fail
    have hq9 : w8.heap.size ≤ w8.heap.size := Nat.le_refl _
    go_region_held3 (fun w' => w'.cell? ⟨w.heap.size, 0, none⟩ = some (.slice A0 d0.ends.length c0) ∧ w'.cell? ⟨w.heap.size, 1, none⟩ = some (.slice A0' d0.ids.length c0') ∧ w'.cell? ⟨w.heap.size, 2, none⟩ = some (.slice A0'' d0.inputs.length c0'') ∧ w'.cell? ⟨w5.heap.size, 0, none⟩ = some (.slice Ar5 d0.ends.length cr5) ∧ w'.cell? ⟨w5.heap.size, 1, none⟩ = some (.slice Ar5' d0.ids.length cr5') ∧ w'.cell? ⟨w5.heap.size, 2, none⟩ = some (.slice Ar5'' d0.inputs.length cr5''))
      (first | exact ⟨kc0_0, kc0_1, kc0_2, kc1_0, kc1_1, kc1_2⟩ | exact ⟨(hb9.cell (p := ⟨w.heap.size, 0, none⟩) (by show w.heap.size < w8.heap.size; omega)).trans kc0_0, (hb9.cell (p := ⟨w.heap.size, 1, none⟩) (by show w.heap.size < w8.heap.size; omega)).trans kc0_1, (hb9.cell (p := ⟨w.heap.size, 2, none⟩) (by show w.heap.size < w8.heap.size; omega)).trans kc0_2, (hb9.cell (p := ⟨w5.heap.size, 0, none⟩) (by show w5.heap.size < w8.heap.size; omega)).trans kc1_0, (hb9.cell (p := ⟨w5.heap.size, 1, none⟩) (by show w5.heap.size < w8.heap.size; omega)).trans kc1_1, (hb9.cell (p := ⟨w5.heap.size, 2, none⟩) (by show w5.heap.size < w8.heap.size; omega)).trans kc1_2⟩ | exact ⟨kq9_0, kq9_1, kq9_2, kq9_3, kq9_4, kq9_5⟩)
      (first | (go_at_call 6; refine (toNetwork_any _ d0 _ _ _ (Net.below H0.out hbw8.drew (Nat.le_refl _)) (by show _ ≤ w8.heap.size; omega) (by omega)).mono ?_; rintro e w9 ⟨r9, rfl, hr9, hbd9⟩; have hb9 : Below w8.heap.size w8 w9 := (Below.refl _ _).drew.trans hbd9; clear hbd9; have R9 := Lib.hid hr9; obtain ⟨Ar9, cr9, Ar9', cr9', Ar9'', cr9'', rfl, _⟩ := hr9.net.parts; clear hr9) | (go_at_call 9; refine (eqNetwork_same _ _ d0 _ _ _ _ _ (Net.below (R5_8.out.net) hb9 (by show _ ≤ w8.heap.size; omega)) (R9.out.net) (by have := hb9.size; show _ ≤ w9.heap.size; exact Nat.le_trans (by show _ ≤ w8.heap.size; omega) this) (Nat.le_refl _)).mono ?_; rintro e wq9 ⟨rfl, hbq9⟩; have kq9_0 := (hbq9.cell (p := ⟨w.heap.size, 0, none⟩) (by have := hb9.size; show w.heap.size < w9.heap.size; exact Nat.lt_of_lt_of_le (by show w.heap.size < w8.heap.size; omega) this)).trans ((hb9.cell (p := ⟨w.heap.size, 0, none⟩) (by show w.heap.size < w8.heap.size; omega)).trans kc0_0); have kq9_1 := (hbq9.cell (p := ⟨w.heap.size, 1, none⟩) (by have := hb9.size; show w.heap.size < w9.heap.size; exact Nat.lt_of_lt_of_le (by show w.heap.size < w8.heap.size; omega) this)).trans ((hb9.cell (p := ⟨w.heap.size, 1, none⟩) (by show w.heap.size < w8.heap.size; omega)).trans kc0_1); have kq9_2 := (hbq9.cell (p := ⟨w.heap.size, 2, none⟩) (by have := hb9.size; show w.heap.size < w9.heap.size; exact Nat.lt_of_lt_of_le (by show w.heap.size < w8.heap.size; omega) this)).trans ((hb9.cell (p := ⟨w.heap.size, 2, none⟩) (by show w.heap.size < w8.heap.size; omega)).trans kc0_2); have kq9_3 := (hbq9.cell (p := ⟨w5.heap.size, 0, none⟩) (by have := hb9.size; show w5.heap.size < w9.heap.size; exact Nat.lt_of_lt_of_le (by show w5.heap.size < w8.heap.size; omega) this)).trans ((hb9.cell (p := ⟨w5.heap.size, 0, none⟩) (by show w5.heap.size < w8.heap.size; omega)).trans kc1_0); have kq9_4 := (hbq9.cell (p := ⟨w5.heap.size, 1, none⟩) (by have := hb9.size; show w5.heap.size < w9.heap.size; exact Nat.lt_of_lt_of_le (by show w5.heap.size < w8.heap.size; omega) this)).trans ((hb9.cell (p := ⟨w5.heap.size, 1, none⟩) (by show w5.heap.size < w8.heap.size; omega)).trans kc1_1); have kq9_5 := (hbq9.cell (p := ⟨w5.heap.size, 2, none⟩) (by have := hb9.size; show w5.heap.size < w9.heap.size; exact Nat.lt_of_lt_of_le (by show w5.heap.size < w8.heap.size; omega) this)).trans ((hb9.cell (p := ⟨w5.heap.size, 2, none⟩) (by show w5.heap.size < w8.heap.size; omega)).trans kc1_2)))
    clear kc0_0 kc0_1 kc0_2 kc1_0 kc1_1 kc1_2 hq9 kq9_0 kq9_1 kq9_2 kq9_3 kq9_4 kq9_5
    clear R9
    have hbz9 : Below w8.heap.size w8 wq9 := Below.trans hb9 (hbq9.mono hb9.size)
    clear hb9 hbq9
    have hs9 := hbz9.size
    have hbw9 := hbw8.trans (hbz9.mono (by omega))
    clear hbw8
    have R4_0_9 := Lib.hid (NetSX.below R4_0_8.out hbz9 (by omega)); clear R4_0_8
    have R5_9 := Lib.hid (NetX.below R5_8.out hbz9 (by omega)); clear R5_8
    have R7_0_9 := Lib.hid (NetSX.below R7_0_8.out hbz9 (by omega)); clear R7_0_8
    have BX1_9 := BX1_8.below hbz9 (by omega); clear BX1_8
    have BX6_9 := BX6_8.below hbz9 (by omega); clear BX6_8
    obtain ⟨kc0_0, kc0_1, kc0_2⟩ := BX1_9.cells
    obtain ⟨kc1_0, kc1_1, kc1_2⟩ := BX6_9.cells
    go_wp2_with fail
    clear kc0_0 kc0_1 kc0_2 kc1_0 kc1_1 kc1_2
    refine (markNetwork_any _ d0 _ _ _ _ R5_9.out (by omega) (by omega) (by omega) (by omega)).mono ?_
    rintro e w10 ⟨rfl, hr10, ht10⟩
    have hs10 := ht10.size
    have hbw10 := hbw9.trans ((ht10.below (by omega)).mono (by omega))
    clear hbw9
    have R4_0_10 := Lib.hid (NetSX.turned R4_0_9.out ht10 (by omega) (by omega)); clear R4_0_9
    have R7_0_10 := Lib.hid (NetSX.turned R7_0_9.out ht10 (by omega) (by omega)); clear R7_0_9
    have BX1_10 : Box3 w10 w.heap.size 25 (.slice A0 d0.ends.length c0) (.slice A0' d0.ids.length c0') (.slice A0'' d0.inputs.length c0'') := (ht10.block _ (by omega) (by omega)).trans BX1_9; clear BX1_9
    have BX6_10 : Box3 w10 w5.heap.size 32 (.slice Ar5 d0.ends.length cr5) (.slice Ar5' d0.ids.length cr5') (.slice Ar5'' d0.inputs.length cr5'') := (ht10.block _ (by omega) (by omega)).trans BX6_9; clear BX6_9
    clear R5_9
    have R5_10 := Lib.hid hr10; clear hr10
    obtain ⟨kc0_0, kc0_1, kc0_2⟩ := BX1_10.cells
    obtain ⟨kc1_0, kc1_1, kc1_2⟩ := BX6_10.cells
    go_wp2_with fail
    clear kc0_0 kc0_1 kc0_2 kc1_0 kc1_1 kc1_2
    refine (eqNetworkS_same _ _ (ccOut d0) _ _ _ _ _ R7_0_10.out.netS R4_0_10.out.netS (by omega) (by omega)).mono ?_
    rintro e w11 ⟨rfl, hb11⟩
    have hs11 := hb11.size
    have hbw11 := hbw10.trans (hb11.mono (by omega))
    clear hbw10
    have R4_0_11 := Lib.hid (NetSX.below R4_0_10.out hb11 (by omega)); clear R4_0_10
    have R5_11 := Lib.hid (NetX.below R5_10.out hb11 (by omega)); clear R5_10
    have R7_0_11 := Lib.hid (NetSX.below R7_0_10.out hb11 (by omega)); clear R7_0_10
    have BX1_11 := BX1_10.below hb11 (by omega); clear BX1_10
    have BX6_11 := BX6_10.below hb11 (by omega); clear BX6_10
    obtain ⟨kc0_0, kc0_1, kc0_2⟩ := BX1_11.cells
    obtain ⟨kc1_0, kc1_1, kc1_2⟩ := BX6_11.cells
    go_wp2_with fail
    clear kc0_0 kc0_1 kc0_2 kc1_0 kc1_1 kc1_2
    refine (markNetworkS_any _ (ccOut d0) _ _ _ _ R7_0_11.out (by omega) (by omega) (by omega) (by omega)).mono ?_
    rintro e w12 ⟨rfl, hr12, ht12⟩
    have hs12 := ht12.size
    have hbw12 := hbw11.trans ((ht12.below (by omega)).mono (by omega))
    clear hbw11
    have R4_0_12 := Lib.hid (NetSX.turned R4_0_11.out ht12 (by omega) (by omega)); clear R4_0_11
    have R5_12 := Lib.hid (NetX.turned R5_11.out ht12 (by omega) (by omega)); clear R5_11
    have BX1_12 : Box3 w12 w.heap.size 25 (.slice A0 d0.ends.length c0) (.slice A0' d0.ids.length c0') (.slice A0'' d0.inputs.length c0'') := (ht12.block _ (by omega) (by omega)).trans BX1_11; clear BX1_11
    have BX6_12 : Box3 w12 w5.heap.size 32 (.slice Ar5 d0.ends.length cr5) (.slice Ar5' d0.ids.length cr5') (.slice Ar5'' d0.inputs.length cr5'') := (ht12.block _ (by omega) (by omega)).trans BX6_11; clear BX6_11
    clear R7_0_11
    have R7_0_12 := Lib.hid hr12; clear hr12
    obtain ⟨kc0_0, kc0_1, kc0_2⟩ := BX1_12.cells
    obtain ⟨kc1_0, kc1_1, kc1_2⟩ := BX6_12.cells
    go_wp2_with fail
    clear kc0_0 kc0_1 kc0_2 kc1_0 kc1_1 kc1_2
    refine (heldNetworkS_yes _ (ccOut d0) _ _ _ _ R7_0_12.out.netS (by omega) (by omega) (by omega) (by omega)).mono ?_
    rintro e w13 ⟨rfl, hb13⟩
    have hs13 := hb13.size
    have hbw13 := hbw12.trans (hb13.mono (by omega))
    clear hbw12
    have R4_0_13 := Lib.hid (NetSX.below R4_0_12.out hb13 (by omega)); clear R4_0_12
    have R5_13 := Lib.hid (NetX.below R5_12.out hb13 (by omega)); clear R5_12
    have R7_0_13 := Lib.hid (NetSX.below R7_0_12.out hb13 (by omega)); clear R7_0_12
    have BX1_13 := BX1_12.below hb13 (by omega); clear BX1_12
    have BX6_13 := BX6_12.below hb13 (by omega); clear BX6_12
    obtain ⟨kc0_0, kc0_1, kc0_2⟩ := BX1_13.cells
    obtain ⟨kc1_0, kc1_1, kc1_2⟩ := BX6_13.cells
    go_wp2_with fail
    clear kc0_0 kc0_1 kc0_2 kc1_0 kc1_1 kc1_2
    refine (toNetwork_any _ d0 _ _ _ (Net.below H0.out hbw13 (Nat.le_refl _)) (by omega) (by omega)).mono ?_
    rintro e w14 ⟨r14, rfl, hr14, hb14⟩
    have hs14 := hb14.size
    have hbw14 := hbw13.trans (hb14.mono (by omega))
    clear hbw13
    have R4_0_14 := Lib.hid (NetSX.below R4_0_13.out hb14 (by omega)); clear R4_0_13
    have R5_14 := Lib.hid (NetX.below R5_13.out hb14 (by omega)); clear R5_13
    have R7_0_14 := Lib.hid (NetSX.below R7_0_13.out hb14 (by omega)); clear R7_0_13
    have BX1_14 := BX1_13.below hb14 (by omega); clear BX1_13
    have BX6_14 := BX6_13.below hb14 (by omega); clear BX6_13
    have R14 := Lib.hid hr14
    obtain ⟨Ar14, cr14, Ar14', cr14', Ar14'', cr14'', rfl, _⟩ := hr14.net.parts
    clear hr14
    obtain ⟨kc0_0, kc0_1, kc0_2⟩ := BX1_14.cells
    obtain ⟨kc1_0, kc1_1, kc1_2⟩ := BX6_14.cells
    go_wp2_with fail
    clear kc0_0 kc0_1 kc0_2 kc1_0 kc1_1 kc1_2
    refine (CanonicalComponents_impl _ d0 _ _ _ R14.out.net (by omega) (by omega) I0.out).mono ?_
    rintro e w15 ⟨r15_0, rfl, hr15_0, hb15⟩
    have hs15 := hb15.size
    have hbw15 := hbw14.trans (hb15.mono (by omega))
    clear hbw14
    have R4_0_15 := Lib.hid (NetSX.below R4_0_14.out hb15 (by omega)); clear R4_0_14
    have R5_15 := Lib.hid (NetX.below R5_14.out hb15 (by omega)); clear R5_14
    have R7_0_15 := Lib.hid (NetSX.below R7_0_14.out hb15 (by omega)); clear R7_0_14
    have R14_15 := Lib.hid (NetX.below R14.out hb15 (by omega)); clear R14
    have BX1_15 := BX1_14.below hb15 (by omega); clear BX1_14
    have BX6_15 := BX6_14.below hb15 (by omega); clear BX6_14
    have R15_0 := Lib.hid hr15_0
    obtain ⟨Ar15_0, cr15_0, rfl⟩ := hr15_0.netS.shape
    clear hr15_0
    clear R14_15
    obtain ⟨kc0_0, kc0_1, kc0_2⟩ := BX1_15.cells
    obtain ⟨kc1_0, kc1_1, kc1_2⟩ := BX6_15.cells
    go_wp2_with fail
    clear kc0_0 kc0_1 kc0_2 kc1_0 kc1_1 kc1_2
    refine (eqNetworkS_same _ _ (ccOut d0) _ _ _ _ _ R15_0.out.netS R4_0_15.out.netS (by omega) (by omega)).mono ?_
    rintro e w16 ⟨rfl, hb16⟩
    have hs16 := hb16.size
    have hbw16 := hbw15.trans (hb16.mono (by omega))
    clear hbw15
    have R4_0_16 := Lib.hid (NetSX.below R4_0_15.out hb16 (by omega)); clear R4_0_15
    have R5_16 := Lib.hid (NetX.below R5_15.out hb16 (by omega)); clear R5_15
    have R7_0_16 := Lib.hid (NetSX.below R7_0_15.out hb16 (by omega)); clear R7_0_15
    have R15_0_16 := Lib.hid (NetSX.below R15_0.out hb16 (by omega)); clear R15_0
    have BX1_16 := BX1_15.below hb16 (by omega); clear BX1_15
    have BX6_16 := BX6_15.below hb16 (by omega); clear BX6_15
    obtain ⟨kc0_0, kc0_1, kc0_2⟩ := BX1_16.cells
    obtain ⟨kc1_0, kc1_1, kc1_2⟩ := BX6_16.cells
    go_wp2_with fail
    clear kc0_0 kc0_1 kc0_2 kc1_0 kc1_1 kc1_2
    refine (heldNetworkS_yes _ (ccOut d0) _ _ _ _ R7_0_16.out.netS (by omega) (by omega) (by omega) (by omega)).mono ?_
    rintro e w17 ⟨rfl, hb17⟩
    have hs17 := hb17.size
    have hbw17 := hbw16.trans (hb17.mono (by omega))
    clear hbw16
    have R4_0_17 := Lib.hid (NetSX.below R4_0_16.out hb17 (by omega)); clear R4_0_16
    have R5_17 := Lib.hid (NetX.below R5_16.out hb17 (by omega)); clear R5_16
    have R7_0_17 := Lib.hid (NetSX.below R7_0_16.out hb17 (by omega)); clear R7_0_16
    have R15_0_17 := Lib.hid (NetSX.below R15_0_16.out hb17 (by omega)); clear R15_0_16
    have BX1_17 := BX1_16.below hb17 (by omega); clear BX1_16
    have BX6_17 := BX6_16.below hb17 (by omega); clear BX6_16
    go_wp2_with fail
    go_ret
    exact ⟨rfl, hbw17⟩
end Go.Proofs.YtmdlginjblnfoaaGreat.fnExactCanonicalComponents
