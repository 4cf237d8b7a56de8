/-
  For all arguments the program's WaveFrom returns what the reference's returns, leaves its arguments as they were, and returns memory of its own. No condition.
-/
import Derived.Test.YtoebgfmnjjiddaaWave3
import Derived.Test.YtoebgfmnjjiddaaOpenNet
import Derived.Deep.RegionHeld3
namespace Go.Proofs.Ytoebgfmnjjiddaa.fnExactWaveFrom
open Go.ChangeShapes Go.WideShapes Go.ChangeAt Go.RowKit
set_option linter.unusedVariables false

theorem own : ownKnob Try.prog.godebug = none := by kernel_rfl
theorem laidOut : laidOutB Try.prog = true := by kernel_rfl

set_option maxHeartbeats 8000000 in
set_option maxRecDepth 100000 in
theorem walk (w : World) (v0 : Value) (d0 : NetD) (h0 : Net w 0 w.heap.size v0 d0) (i0 : d0.Ok) (x1 : Int) (i1 : I64 x1) :
    Calls Try.prog 10 #[v0, .int .i64 x1] w fun e w' => e = .returned (.bool true) ∧ Below w.heap.size w w' := by
  have H0 := Lib.hid h0
  obtain ⟨A0, c0, A0', c0', A0'', c0'', rfl, _⟩ := h0.parts
  clear h0
  have I0 := Lib.hid i0; clear i0
  have I1 := Lib.hid i1; clear i1
  have hdl := wvPar_len d0 x1
  have hdl3 := wvDep_len d0 x1
  have hdl2 := ends_le_szw d0
  have hcnt0 := NetD.cnt_le d0
  by_cases cond0 : d0.sz ≤ 1048576
  case neg =>
    obtain ⟨w1, HW1⟩ : ∃ W, Hid (W = w.alloc (.cells #[.slice A0 d0.ends.length c0, .slice A0' d0.ids.length c0', .slice A0'' d0.inputs.length c0''] 25)) := ⟨_, Lib.hid rfl⟩
    have hb1 : Below w.heap.size w w1 := by rw [HW1.out]; exact below_a1 _ _
    have hz1 : w.heap.size + 1 ≤ w1.heap.size := by rw [HW1.out]; simp
    have hs1 := hb1.size
    have hbw1 := hb1
    have BX1 : Box3 w1 w.heap.size 25 (.slice A0 d0.ends.length c0) (.slice A0' d0.ids.length c0') (.slice A0'' d0.inputs.length c0'') := by rw [HW1.out]; exact Box3.new _ _ _ _ _
    go_enter Try.func10, Try.ntmps10
    obtain ⟨kc0_0, kc0_1, kc0_2⟩ := BX1.cells
    go_wp2_with fail
    rw [← HW1.out]; clear HW1
    clear kc0_0 kc0_1 kc0_2
    refine (szNetwork_no _ d0 _ _ _ _ (Net.below H0.out hbw1 (Nat.le_refl _)) (by omega) (by omega) (by omega) (by omega)).mono ?_
    rintro e w2 ⟨rfl, hb2⟩
    have hs2 := hb2.size
    have hbw2 := hbw1.trans (hb2.mono (by omega))
    clear hbw1
    have BX1_2 := BX1.below hb2 (by omega); clear BX1
    obtain ⟨kc0_0, kc0_1, kc0_2⟩ := BX1_2.cells
    go_wp2_with fail
    clear kc0_0 kc0_1 kc0_2
    go_ret
    exact ⟨rfl, hbw2⟩
  case pos =>
    obtain ⟨w1, HW1⟩ : ∃ W, Hid (W = w.alloc (.cells #[.slice A0 d0.ends.length c0, .slice A0' d0.ids.length c0', .slice A0'' d0.inputs.length c0''] 25)) := ⟨_, Lib.hid rfl⟩
    have hb1 : Below w.heap.size w w1 := by rw [HW1.out]; exact below_a1 _ _
    have hz1 : w.heap.size + 1 ≤ w1.heap.size := by rw [HW1.out]; simp
    have hs1 := hb1.size
    have hbw1 := hb1
    have BX1 : Box3 w1 w.heap.size 25 (.slice A0 d0.ends.length c0) (.slice A0' d0.ids.length c0') (.slice A0'' d0.inputs.length c0'') := by rw [HW1.out]; exact Box3.new _ _ _ _ _
    go_enter Try.func10, Try.ntmps10
    obtain ⟨kc0_0, kc0_1, kc0_2⟩ := BX1.cells
    go_wp2_with fail
    rw [← HW1.out]; clear HW1
    clear kc0_0 kc0_1 kc0_2
    refine (szNetwork_yes _ d0 _ _ _ _ (Net.below H0.out hbw1 (Nat.le_refl _)) (by omega) (by omega) (by omega)).mono ?_
    rintro e w2 ⟨rfl, hb2⟩
    have hs2 := hb2.size
    have hbw2 := hbw1.trans (hb2.mono (by omega))
    clear hbw1
    have BX1_2 := BX1.below hb2 (by omega); clear BX1
    obtain ⟨kc0_0, kc0_1, kc0_2⟩ := BX1_2.cells
    go_wp2_with fail
    clear kc0_0 kc0_1 kc0_2
    refine (toNetwork_any _ d0 _ _ _ (Net.below H0.out hbw2 (Nat.le_refl _)) (by omega) (by omega)).mono ?_
    rintro e w3 ⟨r3, rfl, hr3, hb3⟩
    have hs3 := hb3.size
    have hbw3 := hbw2.trans (hb3.mono (by omega))
    clear hbw2
    have BX1_3 := BX1_2.below hb3 (by omega); clear BX1_2
    have R3 := Lib.hid hr3
    obtain ⟨Ar3, cr3, Ar3', cr3', Ar3'', cr3'', rfl, _⟩ := hr3.net.parts
    clear hr3
    obtain ⟨kc0_0, kc0_1, kc0_2⟩ := BX1_3.cells
    go_wp2_with fail
    clear kc0_0 kc0_1 kc0_2
    refine (WaveFrom_spec _ d0 _ _ x1 _ R3.out.net (by omega) (by omega) I0.out I1.out).mono ?_
    rintro e w4 ⟨r4_0, r4_1, m4, rfl, hma4, hmb4, hr4_0, hr4_1, hb4⟩
    have hs4 := hb4.size
    have hbw4 := hbw3.trans (hb4.mono (by omega))
    clear hbw3
    have R3_4 := Lib.hid (NetX.below R3.out hb4 (by omega)); clear R3
    have BX1_4 := BX1_3.below hb4 (by omega); clear BX1_3
    have R4_0 := Lib.hid hr4_0
    obtain ⟨Ar4_0, cr4_0, rfl⟩ := hr4_0.shape
    clear hr4_0
    have R4_1 := Lib.hid hr4_1
    obtain ⟨Ar4_1, cr4_1, rfl⟩ := hr4_1.shape
    clear hr4_1
    clear R3_4
    obtain ⟨kc0_0, kc0_1, kc0_2⟩ := BX1_4.cells
    go_wp2_with fail
    clear kc0_0 kc0_1 kc0_2
    refine (toNetwork_any _ d0 _ _ _ (Net.below H0.out hbw4 (Nat.le_refl _)) (by omega) (by omega)).mono ?_
    rintro e w5 ⟨r5, rfl, hr5, hb5⟩
    have hs5 := hb5.size
    have hbw5 := hbw4.trans (hb5.mono (by omega))
    clear hbw4
    have R4_0_5 := Lib.hid (IntS.below R4_0.out hb5 (by omega)); clear R4_0
    have R4_1_5 := Lib.hid (IntS.below R4_1.out hb5 (by omega)); clear R4_1
    have BX1_5 := BX1_4.below hb5 (by omega); clear BX1_4
    have R5 := Lib.hid hr5
    obtain ⟨Ar5, cr5, Ar5', cr5', Ar5'', cr5'', rfl, _⟩ := hr5.net.parts
    clear hr5
    obtain ⟨w6, HW6⟩ : ∃ W, Hid (W = w5.alloc (.cells #[.slice Ar5 d0.ends.length cr5, .slice Ar5' d0.ids.length cr5', .slice Ar5'' d0.inputs.length cr5''] 33)) := ⟨_, Lib.hid rfl⟩
    have hb6 : Below w5.heap.size w5 w6 := by rw [HW6.out]; exact below_a1 _ _
    have hz6 : w5.heap.size + 1 ≤ w6.heap.size := by rw [HW6.out]; simp
    have hs6 := hb6.size
    have hbw6 := hbw5.trans (hb6.mono (by omega))
    clear hbw5
    have R4_0_6 := Lib.hid (IntS.below R4_0_5.out hb6 (by omega)); clear R4_0_5
    have R4_1_6 := Lib.hid (IntS.below R4_1_5.out hb6 (by omega)); clear R4_1_5
    have R5_6 := Lib.hid (NetX.below R5.out hb6 (by omega)); clear R5
    have BX1_6 := BX1_5.below hb6 (by omega); clear BX1_5
    have BX6 : Box3 w6 w5.heap.size 33 (.slice Ar5 d0.ends.length cr5) (.slice Ar5' d0.ids.length cr5') (.slice Ar5'' d0.inputs.length cr5'') := by rw [HW6.out]; exact Box3.new _ _ _ _ _
    obtain ⟨kc0_0, kc0_1, kc0_2⟩ := BX1_6.cells
    obtain ⟨kc1_0, kc1_1, kc1_2⟩ := BX6.cells
    go_wp2_with fail
    rw [← HW6.out]; clear HW6
    clear kc0_0 kc0_1 kc0_2 kc1_0 kc1_1 kc1_2
    refine (WaveFrom_impl _ d0 _ _ x1 _ R5_6.out.net (by omega) (by omega) I0.out I1.out).mono ?_
    rintro e w7 ⟨r7_0, r7_1, m7, rfl, hma7, hmb7, hr7_0, hr7_1, hb7⟩
    have hs7 := hb7.size
    have hbw7 := hbw6.trans (hb7.mono (by omega))
    clear hbw6
    have R4_0_7 := Lib.hid (IntS.below R4_0_6.out hb7 (by omega)); clear R4_0_6
    have R4_1_7 := Lib.hid (IntS.below R4_1_6.out hb7 (by omega)); clear R4_1_6
    have R5_7 := Lib.hid (NetX.below R5_6.out hb7 (by omega)); clear R5_6
    have BX1_7 := BX1_6.below hb7 (by omega); clear BX1_6
    have BX6_7 := BX6.below hb7 (by omega); clear BX6
    have R7_0 := Lib.hid hr7_0
    obtain ⟨Ar7_0, cr7_0, rfl⟩ := hr7_0.shape
    clear hr7_0
    have R7_1 := Lib.hid hr7_1
    obtain ⟨Ar7_1, cr7_1, rfl⟩ := hr7_1.shape
    clear hr7_1
    obtain ⟨kc0_0, kc0_1, kc0_2⟩ := BX1_7.cells
    obtain ⟨kc1_0, kc1_1, kc1_2⟩ := BX6_7.cells
    go_wp2_with fail
    clear kc0_0 kc0_1 kc0_2 kc1_0 kc1_1 kc1_2
    refine (eqIntS_same _ _ (wvPar d0 x1) _ _ _ _ _ R7_0.out R4_0_7.out (by omega) (by omega)).mono ?_
    rintro e w8 ⟨rfl, hb8⟩
    have hs8 := hb8.size
    have hbw8 := hbw7.trans (hb8.mono (by omega))
    clear hbw7
    have R4_0_8 := Lib.hid (IntS.below R4_0_7.out hb8 (by omega)); clear R4_0_7
    have R4_1_8 := Lib.hid (IntS.below R4_1_7.out hb8 (by omega)); clear R4_1_7
    have R5_8 := Lib.hid (NetX.below R5_7.out hb8 (by omega)); clear R5_7
    have R7_0_8 := Lib.hid (IntS.below R7_0.out hb8 (by omega)); clear R7_0
    have R7_1_8 := Lib.hid (IntS.below R7_1.out hb8 (by omega)); clear R7_1
    have BX1_8 := BX1_7.below hb8 (by omega); clear BX1_7
    have BX6_8 := BX6_7.below hb8 (by omega); clear BX6_7
    obtain ⟨kc0_0, kc0_1, kc0_2⟩ := BX1_8.cells
    obtain ⟨kc1_0, kc1_1, kc1_2⟩ := BX6_8.cells
    go_wp2_with fail
    clear kc0_0 kc0_1 kc0_2 kc1_0 kc1_1 kc1_2
    refine (eqIntS_same _ _ (wvDep d0 x1) _ _ _ _ _ R7_1_8.out R4_1_8.out (by omega) (by omega)).mono ?_
    rintro e w9 ⟨rfl, hb9⟩
    have hs9 := hb9.size
    have hbw9 := hbw8.trans (hb9.mono (by omega))
    clear hbw8
    have R4_0_9 := Lib.hid (IntS.below R4_0_8.out hb9 (by omega)); clear R4_0_8
    have R4_1_9 := Lib.hid (IntS.below R4_1_8.out hb9 (by omega)); clear R4_1_8
    have R5_9 := Lib.hid (NetX.below R5_8.out hb9 (by omega)); clear R5_8
    have R7_0_9 := Lib.hid (IntS.below R7_0_8.out hb9 (by omega)); clear R7_0_8
    have R7_1_9 := Lib.hid (IntS.below R7_1_8.out hb9 (by omega)); clear R7_1_8
    have BX1_9 := BX1_8.below hb9 (by omega); clear BX1_8
    have BX6_9 := BX6_8.below hb9 (by omega); clear BX6_8
    obtain ⟨kc0_0, kc0_1, kc0_2⟩ := BX1_9.cells
    obtain ⟨kc1_0, kc1_1, kc1_2⟩ := BX6_9.cells
    go_wp2_with fail
    have hq10 : w9.heap.size ≤ w9.heap.size := Nat.le_refl _
    go_region_held3 (fun w' => w'.cell? ⟨w.heap.size, 0, none⟩ = some (.slice A0 d0.ends.length c0) ∧ w'.cell? ⟨w.heap.size, 1, none⟩ = some (.slice A0' d0.ids.length c0') ∧ w'.cell? ⟨w.heap.size, 2, none⟩ = some (.slice A0'' d0.inputs.length c0'') ∧ w'.cell? ⟨w5.heap.size, 0, none⟩ = some (.slice Ar5 d0.ends.length cr5) ∧ w'.cell? ⟨w5.heap.size, 1, none⟩ = some (.slice Ar5' d0.ids.length cr5') ∧ w'.cell? ⟨w5.heap.size, 2, none⟩ = some (.slice Ar5'' d0.inputs.length cr5''))
      (first | exact ⟨kc0_0, kc0_1, kc0_2, kc1_0, kc1_1, kc1_2⟩ | exact ⟨(hb10.cell (p := ⟨w.heap.size, 0, none⟩) (by show w.heap.size < w9.heap.size; omega)).trans kc0_0, (hb10.cell (p := ⟨w.heap.size, 1, none⟩) (by show w.heap.size < w9.heap.size; omega)).trans kc0_1, (hb10.cell (p := ⟨w.heap.size, 2, none⟩) (by show w.heap.size < w9.heap.size; omega)).trans kc0_2, (hb10.cell (p := ⟨w5.heap.size, 0, none⟩) (by show w5.heap.size < w9.heap.size; omega)).trans kc1_0, (hb10.cell (p := ⟨w5.heap.size, 1, none⟩) (by show w5.heap.size < w9.heap.size; omega)).trans kc1_1, (hb10.cell (p := ⟨w5.heap.size, 2, none⟩) (by show w5.heap.size < w9.heap.size; omega)).trans kc1_2⟩ | exact ⟨kq10_0, kq10_1, kq10_2, kq10_3, kq10_4, kq10_5⟩)
      (first | (go_at_call 18; refine (toNetwork_any _ d0 _ _ _ (Net.below H0.out hbw9.drew (Nat.le_refl _)) (by show _ ≤ w9.heap.size; omega) (by omega)).mono ?_; rintro e w10 ⟨r10, rfl, hr10, hbd10⟩; have hb10 : Below w9.heap.size w9 w10 := (Below.refl _ _).drew.trans hbd10; clear hbd10; have R10 := Lib.hid hr10; obtain ⟨Ar10, cr10, Ar10', cr10', Ar10'', cr10'', rfl, _⟩ := hr10.net.parts; clear hr10) | (go_at_call 22; refine (eqNetwork_same _ _ d0 _ _ _ _ _ (Net.below (R5_9.out.net) hb10 (by show _ ≤ w9.heap.size; omega)) (R10.out.net) (by have := hb10.size; show _ ≤ w10.heap.size; exact Nat.le_trans (by show _ ≤ w9.heap.size; omega) this) (Nat.le_refl _)).mono ?_; rintro e wq10 ⟨rfl, hbq10⟩; have kq10_0 := (hbq10.cell (p := ⟨w.heap.size, 0, none⟩) (by have := hb10.size; show w.heap.size < w10.heap.size; exact Nat.lt_of_lt_of_le (by show w.heap.size < w9.heap.size; omega) this)).trans ((hb10.cell (p := ⟨w.heap.size, 0, none⟩) (by show w.heap.size < w9.heap.size; omega)).trans kc0_0); have kq10_1 := (hbq10.cell (p := ⟨w.heap.size, 1, none⟩) (by have := hb10.size; show w.heap.size < w10.heap.size; exact Nat.lt_of_lt_of_le (by show w.heap.size < w9.heap.size; omega) this)).trans ((hb10.cell (p := ⟨w.heap.size, 1, none⟩) (by show w.heap.size < w9.heap.size; omega)).trans kc0_1); have kq10_2 := (hbq10.cell (p := ⟨w.heap.size, 2, none⟩) (by have := hb10.size; show w.heap.size < w10.heap.size; exact Nat.lt_of_lt_of_le (by show w.heap.size < w9.heap.size; omega) this)).trans ((hb10.cell (p := ⟨w.heap.size, 2, none⟩) (by show w.heap.size < w9.heap.size; omega)).trans kc0_2); have kq10_3 := (hbq10.cell (p := ⟨w5.heap.size, 0, none⟩) (by have := hb10.size; show w5.heap.size < w10.heap.size; exact Nat.lt_of_lt_of_le (by show w5.heap.size < w9.heap.size; omega) this)).trans ((hb10.cell (p := ⟨w5.heap.size, 0, none⟩) (by show w5.heap.size < w9.heap.size; omega)).trans kc1_0); have kq10_4 := (hbq10.cell (p := ⟨w5.heap.size, 1, none⟩) (by have := hb10.size; show w5.heap.size < w10.heap.size; exact Nat.lt_of_lt_of_le (by show w5.heap.size < w9.heap.size; omega) this)).trans ((hb10.cell (p := ⟨w5.heap.size, 1, none⟩) (by show w5.heap.size < w9.heap.size; omega)).trans kc1_1); have kq10_5 := (hbq10.cell (p := ⟨w5.heap.size, 2, none⟩) (by have := hb10.size; show w5.heap.size < w10.heap.size; exact Nat.lt_of_lt_of_le (by show w5.heap.size < w9.heap.size; omega) this)).trans ((hb10.cell (p := ⟨w5.heap.size, 2, none⟩) (by show w5.heap.size < w9.heap.size; omega)).trans kc1_2)))
    clear kc0_0 kc0_1 kc0_2 kc1_0 kc1_1 kc1_2 hq10 kq10_0 kq10_1 kq10_2 kq10_3 kq10_4 kq10_5
    clear R10
    have hbz10 : Below w9.heap.size w9 wq10 := Below.trans hb10 (hbq10.mono hb10.size)
    clear hb10 hbq10
    have hs10 := hbz10.size
    have hbw10 := hbw9.trans (hbz10.mono (by omega))
    clear hbw9
    have R4_0_10 := Lib.hid (IntS.below R4_0_9.out hbz10 (by omega)); clear R4_0_9
    have R4_1_10 := Lib.hid (IntS.below R4_1_9.out hbz10 (by omega)); clear R4_1_9
    have R5_10 := Lib.hid (NetX.below R5_9.out hbz10 (by omega)); clear R5_9
    have R7_0_10 := Lib.hid (IntS.below R7_0_9.out hbz10 (by omega)); clear R7_0_9
    have R7_1_10 := Lib.hid (IntS.below R7_1_9.out hbz10 (by omega)); clear R7_1_9
    have BX1_10 := BX1_9.below hbz10 (by omega); clear BX1_9
    have BX6_10 := BX6_9.below hbz10 (by omega); clear BX6_9
    obtain ⟨kc0_0, kc0_1, kc0_2⟩ := BX1_10.cells
    obtain ⟨kc1_0, kc1_1, kc1_2⟩ := BX6_10.cells
    go_wp2_with fail
    clear kc0_0 kc0_1 kc0_2 kc1_0 kc1_1 kc1_2
    refine (markNetwork_any _ d0 _ _ _ _ R5_10.out (by omega) (by omega) (by omega) (by omega)).mono ?_
    rintro e w11 ⟨rfl, hr11, ht11⟩
    have hs11 := ht11.size
    have hbw11 := hbw10.trans ((ht11.below (by omega)).mono (by omega))
    clear hbw10
    have R4_0_11 := Lib.hid (IntS.turned R4_0_10.out ht11 (by omega) (by omega)); clear R4_0_10
    have R4_1_11 := Lib.hid (IntS.turned R4_1_10.out ht11 (by omega) (by omega)); clear R4_1_10
    have R7_0_11 := Lib.hid (IntS.turned R7_0_10.out ht11 (by omega) (by omega)); clear R7_0_10
    have R7_1_11 := Lib.hid (IntS.turned R7_1_10.out ht11 (by omega) (by omega)); clear R7_1_10
    have BX1_11 : Box3 w11 w.heap.size 25 (.slice A0 d0.ends.length c0) (.slice A0' d0.ids.length c0') (.slice A0'' d0.inputs.length c0'') := (ht11.block _ (by omega) (by omega)).trans BX1_10; clear BX1_10
    have BX6_11 : Box3 w11 w5.heap.size 33 (.slice Ar5 d0.ends.length cr5) (.slice Ar5' d0.ids.length cr5') (.slice Ar5'' d0.inputs.length cr5'') := (ht11.block _ (by omega) (by omega)).trans BX6_10; clear BX6_10
    clear R5_10
    have R5_11 := Lib.hid hr11; clear hr11
    obtain ⟨kc0_0, kc0_1, kc0_2⟩ := BX1_11.cells
    obtain ⟨kc1_0, kc1_1, kc1_2⟩ := BX6_11.cells
    go_wp2_with fail
    clear kc0_0 kc0_1 kc0_2 kc1_0 kc1_1 kc1_2
    refine (eqIntS_same _ _ (wvPar d0 x1) _ _ _ _ _ R7_0_11.out R4_0_11.out (by omega) (by omega)).mono ?_
    rintro e w12 ⟨rfl, hb12⟩
    have hs12 := hb12.size
    have hbw12 := hbw11.trans (hb12.mono (by omega))
    clear hbw11
    have R4_0_12 := Lib.hid (IntS.below R4_0_11.out hb12 (by omega)); clear R4_0_11
    have R4_1_12 := Lib.hid (IntS.below R4_1_11.out hb12 (by omega)); clear R4_1_11
    have R5_12 := Lib.hid (NetX.below R5_11.out hb12 (by omega)); clear R5_11
    have R7_0_12 := Lib.hid (IntS.below R7_0_11.out hb12 (by omega)); clear R7_0_11
    have R7_1_12 := Lib.hid (IntS.below R7_1_11.out hb12 (by omega)); clear R7_1_11
    have BX1_12 := BX1_11.below hb12 (by omega); clear BX1_11
    have BX6_12 := BX6_11.below hb12 (by omega); clear BX6_11
    obtain ⟨kc0_0, kc0_1, kc0_2⟩ := BX1_12.cells
    obtain ⟨kc1_0, kc1_1, kc1_2⟩ := BX6_12.cells
    go_wp2_with fail
    clear kc0_0 kc0_1 kc0_2 kc1_0 kc1_1 kc1_2
    refine (eqIntS_same _ _ (wvDep d0 x1) _ _ _ _ _ R7_1_12.out R4_1_12.out (by omega) (by omega)).mono ?_
    rintro e w13 ⟨rfl, hb13⟩
    have hs13 := hb13.size
    have hbw13 := hbw12.trans (hb13.mono (by omega))
    clear hbw12
    have R4_0_13 := Lib.hid (IntS.below R4_0_12.out hb13 (by omega)); clear R4_0_12
    have R4_1_13 := Lib.hid (IntS.below R4_1_12.out hb13 (by omega)); clear R4_1_12
    have R5_13 := Lib.hid (NetX.below R5_12.out hb13 (by omega)); clear R5_12
    have R7_0_13 := Lib.hid (IntS.below R7_0_12.out hb13 (by omega)); clear R7_0_12
    have R7_1_13 := Lib.hid (IntS.below R7_1_12.out hb13 (by omega)); clear R7_1_12
    have BX1_13 := BX1_12.below hb13 (by omega); clear BX1_12
    have BX6_13 := BX6_12.below hb13 (by omega); clear BX6_12
    obtain ⟨kc0_0, kc0_1, kc0_2⟩ := BX1_13.cells
    obtain ⟨kc1_0, kc1_1, kc1_2⟩ := BX6_13.cells
    go_wp2_with fail
    clear kc0_0 kc0_1 kc0_2 kc1_0 kc1_1 kc1_2
    refine (markIntS_any _ (wvPar d0 x1) _ _ _ _ R7_0_13.out (by omega) (by omega) (by omega) (by omega)).mono ?_
    rintro e w14 ⟨rfl, hr14, hg14, hzz14⟩
    have ht14 := Turned.of_row R7_0_13.out hg14; clear hg14 hzz14
    have hs14 := ht14.size
    have hbw14 := hbw13.trans ((ht14.below (by omega)).mono (by omega))
    clear hbw13
    have R4_0_14 := Lib.hid (IntS.turned R4_0_13.out ht14 (by omega) (by omega)); clear R4_0_13
    have R4_1_14 := Lib.hid (IntS.turned R4_1_13.out ht14 (by omega) (by omega)); clear R4_1_13
    have R5_14 := Lib.hid (NetX.turned R5_13.out ht14 (by omega) (by omega)); clear R5_13
    have R7_1_14 := Lib.hid (IntS.turned R7_1_13.out ht14 (by omega) (by omega)); clear R7_1_13
    have BX1_14 : Box3 w14 w.heap.size 25 (.slice A0 d0.ends.length c0) (.slice A0' d0.ids.length c0') (.slice A0'' d0.inputs.length c0'') := (ht14.block _ (by omega) (by omega)).trans BX1_13; clear BX1_13
    have BX6_14 : Box3 w14 w5.heap.size 33 (.slice Ar5 d0.ends.length cr5) (.slice Ar5' d0.ids.length cr5') (.slice Ar5'' d0.inputs.length cr5'') := (ht14.block _ (by omega) (by omega)).trans BX6_13; clear BX6_13
    clear R7_0_13
    have R7_0_14 := Lib.hid hr14; clear hr14
    obtain ⟨kc0_0, kc0_1, kc0_2⟩ := BX1_14.cells
    obtain ⟨kc1_0, kc1_1, kc1_2⟩ := BX6_14.cells
    go_wp2_with fail
    clear kc0_0 kc0_1 kc0_2 kc1_0 kc1_1 kc1_2
    refine (markIntS_any _ (wvDep d0 x1) _ _ _ _ R7_1_14.out (by omega) (by omega) (by omega) (by omega)).mono ?_
    rintro e w15 ⟨rfl, hr15, hg15, hzz15⟩
    have ht15 := Turned.of_row R7_1_14.out hg15; clear hg15 hzz15
    have hs15 := ht15.size
    have hbw15 := hbw14.trans ((ht15.below (by omega)).mono (by omega))
    clear hbw14
    have R4_0_15 := Lib.hid (IntS.turned R4_0_14.out ht15 (by omega) (by omega)); clear R4_0_14
    have R4_1_15 := Lib.hid (IntS.turned R4_1_14.out ht15 (by omega) (by omega)); clear R4_1_14
    have R5_15 := Lib.hid (NetX.turned R5_14.out ht15 (by omega) (by omega)); clear R5_14
    have R7_0_15 := Lib.hid (IntS.turned R7_0_14.out ht15 (by omega) (by omega)); clear R7_0_14
    have BX1_15 : Box3 w15 w.heap.size 25 (.slice A0 d0.ends.length c0) (.slice A0' d0.ids.length c0') (.slice A0'' d0.inputs.length c0'') := (ht15.block _ (by omega) (by omega)).trans BX1_14; clear BX1_14
    have BX6_15 : Box3 w15 w5.heap.size 33 (.slice Ar5 d0.ends.length cr5) (.slice Ar5' d0.ids.length cr5') (.slice Ar5'' d0.inputs.length cr5'') := (ht15.block _ (by omega) (by omega)).trans BX6_14; clear BX6_14
    clear R7_1_14
    have R7_1_15 := Lib.hid hr15; clear hr15
    obtain ⟨kc0_0, kc0_1, kc0_2⟩ := BX1_15.cells
    obtain ⟨kc1_0, kc1_1, kc1_2⟩ := BX6_15.cells
    go_wp2_with fail
    clear kc0_0 kc0_1 kc0_2 kc1_0 kc1_1 kc1_2
    refine (heldIntS_yes _ (wvPar d0 x1) _ _ _ _ R7_0_15.out (by omega) (by omega) (by omega)).mono ?_
    rintro e w16 ⟨rfl, hb16⟩
    have hs16 := hb16.size
    have hbw16 := hbw15.trans (hb16.mono (by omega))
    clear hbw15
    have R4_0_16 := Lib.hid (IntS.below R4_0_15.out hb16 (by omega)); clear R4_0_15
    have R4_1_16 := Lib.hid (IntS.below R4_1_15.out hb16 (by omega)); clear R4_1_15
    have R5_16 := Lib.hid (NetX.below R5_15.out hb16 (by omega)); clear R5_15
    have R7_0_16 := Lib.hid (IntS.below R7_0_15.out hb16 (by omega)); clear R7_0_15
    have R7_1_16 := Lib.hid (IntS.below R7_1_15.out hb16 (by omega)); clear R7_1_15
    have BX1_16 := BX1_15.below hb16 (by omega); clear BX1_15
    have BX6_16 := BX6_15.below hb16 (by omega); clear BX6_15
    obtain ⟨kc0_0, kc0_1, kc0_2⟩ := BX1_16.cells
    obtain ⟨kc1_0, kc1_1, kc1_2⟩ := BX6_16.cells
    go_wp2_with fail
    clear kc0_0 kc0_1 kc0_2 kc1_0 kc1_1 kc1_2
    refine (heldIntS_yes _ (wvDep d0 x1) _ _ _ _ R7_1_16.out (by omega) (by omega) (by omega)).mono ?_
    rintro e w17 ⟨rfl, hb17⟩
    have hs17 := hb17.size
    have hbw17 := hbw16.trans (hb17.mono (by omega))
    clear hbw16
    have R4_0_17 := Lib.hid (IntS.below R4_0_16.out hb17 (by omega)); clear R4_0_16
    have R4_1_17 := Lib.hid (IntS.below R4_1_16.out hb17 (by omega)); clear R4_1_16
    have R5_17 := Lib.hid (NetX.below R5_16.out hb17 (by omega)); clear R5_16
    have R7_0_17 := Lib.hid (IntS.below R7_0_16.out hb17 (by omega)); clear R7_0_16
    have R7_1_17 := Lib.hid (IntS.below R7_1_16.out hb17 (by omega)); clear R7_1_16
    have BX1_17 := BX1_16.below hb17 (by omega); clear BX1_16
    have BX6_17 := BX6_16.below hb17 (by omega); clear BX6_16
    obtain ⟨kc0_0, kc0_1, kc0_2⟩ := BX1_17.cells
    obtain ⟨kc1_0, kc1_1, kc1_2⟩ := BX6_17.cells
    go_wp2_with fail
    clear kc0_0 kc0_1 kc0_2 kc1_0 kc1_1 kc1_2
    refine (toNetwork_any _ d0 _ _ _ (Net.below H0.out hbw17 (Nat.le_refl _)) (by omega) (by omega)).mono ?_
    rintro e w18 ⟨r18, rfl, hr18, hb18⟩
    have hs18 := hb18.size
    have hbw18 := hbw17.trans (hb18.mono (by omega))
    clear hbw17
    have R4_0_18 := Lib.hid (IntS.below R4_0_17.out hb18 (by omega)); clear R4_0_17
    have R4_1_18 := Lib.hid (IntS.below R4_1_17.out hb18 (by omega)); clear R4_1_17
    have R5_18 := Lib.hid (NetX.below R5_17.out hb18 (by omega)); clear R5_17
    have R7_0_18 := Lib.hid (IntS.below R7_0_17.out hb18 (by omega)); clear R7_0_17
    have R7_1_18 := Lib.hid (IntS.below R7_1_17.out hb18 (by omega)); clear R7_1_17
    have BX1_18 := BX1_17.below hb18 (by omega); clear BX1_17
    have BX6_18 := BX6_17.below hb18 (by omega); clear BX6_17
    have R18 := Lib.hid hr18
    obtain ⟨Ar18, cr18, Ar18', cr18', Ar18'', cr18'', rfl, _⟩ := hr18.net.parts
    clear hr18
    obtain ⟨kc0_0, kc0_1, kc0_2⟩ := BX1_18.cells
    obtain ⟨kc1_0, kc1_1, kc1_2⟩ := BX6_18.cells
    go_wp2_with fail
    clear kc0_0 kc0_1 kc0_2 kc1_0 kc1_1 kc1_2
    refine (WaveFrom_impl _ d0 _ _ x1 _ R18.out.net (by omega) (by omega) I0.out I1.out).mono ?_
    rintro e w19 ⟨r19_0, r19_1, m19, rfl, hma19, hmb19, hr19_0, hr19_1, hb19⟩
    have hs19 := hb19.size
    have hbw19 := hbw18.trans (hb19.mono (by omega))
    clear hbw18
    have R4_0_19 := Lib.hid (IntS.below R4_0_18.out hb19 (by omega)); clear R4_0_18
    have R4_1_19 := Lib.hid (IntS.below R4_1_18.out hb19 (by omega)); clear R4_1_18
    have R5_19 := Lib.hid (NetX.below R5_18.out hb19 (by omega)); clear R5_18
    have R7_0_19 := Lib.hid (IntS.below R7_0_18.out hb19 (by omega)); clear R7_0_18
    have R7_1_19 := Lib.hid (IntS.below R7_1_18.out hb19 (by omega)); clear R7_1_18
    have R18_19 := Lib.hid (NetX.below R18.out hb19 (by omega)); clear R18
    have BX1_19 := BX1_18.below hb19 (by omega); clear BX1_18
    have BX6_19 := BX6_18.below hb19 (by omega); clear BX6_18
    have R19_0 := Lib.hid hr19_0
    obtain ⟨Ar19_0, cr19_0, rfl⟩ := hr19_0.shape
    clear hr19_0
    have R19_1 := Lib.hid hr19_1
    obtain ⟨Ar19_1, cr19_1, rfl⟩ := hr19_1.shape
    clear hr19_1
    clear R18_19
    obtain ⟨kc0_0, kc0_1, kc0_2⟩ := BX1_19.cells
    obtain ⟨kc1_0, kc1_1, kc1_2⟩ := BX6_19.cells
    go_wp2_with fail
    clear kc0_0 kc0_1 kc0_2 kc1_0 kc1_1 kc1_2
    refine (eqIntS_same _ _ (wvPar d0 x1) _ _ _ _ _ R19_0.out R4_0_19.out (by omega) (by omega)).mono ?_
    rintro e w20 ⟨rfl, hb20⟩
    have hs20 := hb20.size
    have hbw20 := hbw19.trans (hb20.mono (by omega))
    clear hbw19
    have R4_0_20 := Lib.hid (IntS.below R4_0_19.out hb20 (by omega)); clear R4_0_19
    have R4_1_20 := Lib.hid (IntS.below R4_1_19.out hb20 (by omega)); clear R4_1_19
    have R5_20 := Lib.hid (NetX.below R5_19.out hb20 (by omega)); clear R5_19
    have R7_0_20 := Lib.hid (IntS.below R7_0_19.out hb20 (by omega)); clear R7_0_19
    have R7_1_20 := Lib.hid (IntS.below R7_1_19.out hb20 (by omega)); clear R7_1_19
    have R19_0_20 := Lib.hid (IntS.below R19_0.out hb20 (by omega)); clear R19_0
    have R19_1_20 := Lib.hid (IntS.below R19_1.out hb20 (by omega)); clear R19_1
    have BX1_20 := BX1_19.below hb20 (by omega); clear BX1_19
    have BX6_20 := BX6_19.below hb20 (by omega); clear BX6_19
    obtain ⟨kc0_0, kc0_1, kc0_2⟩ := BX1_20.cells
    obtain ⟨kc1_0, kc1_1, kc1_2⟩ := BX6_20.cells
    go_wp2_with fail
    clear kc0_0 kc0_1 kc0_2 kc1_0 kc1_1 kc1_2
    refine (eqIntS_same _ _ (wvDep d0 x1) _ _ _ _ _ R19_1_20.out R4_1_20.out (by omega) (by omega)).mono ?_
    rintro e w21 ⟨rfl, hb21⟩
    have hs21 := hb21.size
    have hbw21 := hbw20.trans (hb21.mono (by omega))
    clear hbw20
    have R4_0_21 := Lib.hid (IntS.below R4_0_20.out hb21 (by omega)); clear R4_0_20
    have R4_1_21 := Lib.hid (IntS.below R4_1_20.out hb21 (by omega)); clear R4_1_20
    have R5_21 := Lib.hid (NetX.below R5_20.out hb21 (by omega)); clear R5_20
    have R7_0_21 := Lib.hid (IntS.below R7_0_20.out hb21 (by omega)); clear R7_0_20
    have R7_1_21 := Lib.hid (IntS.below R7_1_20.out hb21 (by omega)); clear R7_1_20
    have R19_0_21 := Lib.hid (IntS.below R19_0_20.out hb21 (by omega)); clear R19_0_20
    have R19_1_21 := Lib.hid (IntS.below R19_1_20.out hb21 (by omega)); clear R19_1_20
    have BX1_21 := BX1_20.below hb21 (by omega); clear BX1_20
    have BX6_21 := BX6_20.below hb21 (by omega); clear BX6_20
    obtain ⟨kc0_0, kc0_1, kc0_2⟩ := BX1_21.cells
    obtain ⟨kc1_0, kc1_1, kc1_2⟩ := BX6_21.cells
    go_wp2_with fail
    clear kc0_0 kc0_1 kc0_2 kc1_0 kc1_1 kc1_2
    refine (heldIntS_yes _ (wvPar d0 x1) _ _ _ _ R7_0_21.out (by omega) (by omega) (by omega)).mono ?_
    rintro e w22 ⟨rfl, hb22⟩
    have hs22 := hb22.size
    have hbw22 := hbw21.trans (hb22.mono (by omega))
    clear hbw21
    have R4_0_22 := Lib.hid (IntS.below R4_0_21.out hb22 (by omega)); clear R4_0_21
    have R4_1_22 := Lib.hid (IntS.below R4_1_21.out hb22 (by omega)); clear R4_1_21
    have R5_22 := Lib.hid (NetX.below R5_21.out hb22 (by omega)); clear R5_21
    have R7_0_22 := Lib.hid (IntS.below R7_0_21.out hb22 (by omega)); clear R7_0_21
    have R7_1_22 := Lib.hid (IntS.below R7_1_21.out hb22 (by omega)); clear R7_1_21
    have R19_0_22 := Lib.hid (IntS.below R19_0_21.out hb22 (by omega)); clear R19_0_21
    have R19_1_22 := Lib.hid (IntS.below R19_1_21.out hb22 (by omega)); clear R19_1_21
    have BX1_22 := BX1_21.below hb22 (by omega); clear BX1_21
    have BX6_22 := BX6_21.below hb22 (by omega); clear BX6_21
    obtain ⟨kc0_0, kc0_1, kc0_2⟩ := BX1_22.cells
    obtain ⟨kc1_0, kc1_1, kc1_2⟩ := BX6_22.cells
    go_wp2_with fail
    clear kc0_0 kc0_1 kc0_2 kc1_0 kc1_1 kc1_2
    refine (heldIntS_yes _ (wvDep d0 x1) _ _ _ _ R7_1_22.out (by omega) (by omega) (by omega)).mono ?_
    rintro e w23 ⟨rfl, hb23⟩
    have hs23 := hb23.size
    have hbw23 := hbw22.trans (hb23.mono (by omega))
    clear hbw22
    have R4_0_23 := Lib.hid (IntS.below R4_0_22.out hb23 (by omega)); clear R4_0_22
    have R4_1_23 := Lib.hid (IntS.below R4_1_22.out hb23 (by omega)); clear R4_1_22
    have R5_23 := Lib.hid (NetX.below R5_22.out hb23 (by omega)); clear R5_22
    have R7_0_23 := Lib.hid (IntS.below R7_0_22.out hb23 (by omega)); clear R7_0_22
    have R7_1_23 := Lib.hid (IntS.below R7_1_22.out hb23 (by omega)); clear R7_1_22
    have R19_0_23 := Lib.hid (IntS.below R19_0_22.out hb23 (by omega)); clear R19_0_22
    have R19_1_23 := Lib.hid (IntS.below R19_1_22.out hb23 (by omega)); clear R19_1_22
    have BX1_23 := BX1_22.below hb23 (by omega); clear BX1_22
    have BX6_23 := BX6_22.below hb23 (by omega); clear BX6_22
    go_wp2_with fail
    go_ret
    exact ⟨rfl, hbw23⟩
end Go.Proofs.Ytoebgfmnjjiddaa.fnExactWaveFrom
