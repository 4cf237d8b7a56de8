/-
  For all arguments the program's IsForestLabeling returns what the reference's returns, leaves its arguments as they were, and returns memory of its own. No condition.
-/
import Derived.Test.YtmfjdiccohgihaaFlM
import Derived.Test.YtmfjdiccohgihaaOpenNet
import Derived.Deep.RegionHeld3
namespace Go.Proofs.Ytmfjdiccohgihaa.fnExactIsForestLabeling
open Go.ChangeShapes Go.WideShapes Go.ChangeAt Go.RowKit
set_option linter.unusedVariables false

theorem own : ownKnob Try.prog.godebug = none := by kernel_rfl
theorem laidOut : laidOutB Try.prog = true := by kernel_rfl

set_option maxHeartbeats 8000000 in
set_option maxRecDepth 100000 in
theorem walk (w : World) (v0 : Value) (d0 : NetD) (h0 : Net w 0 w.heap.size v0 d0) (i0 : d0.Ok) (v1 : Value) (d1 : List (List Int)) (h1 : IntSS w 0 w.heap.size v1 d1) (i1 : ∀ l ∈ d1, ∀ z ∈ l, I64 z) (x2 : Int) (i2 : I64 x2) :
    Calls Try.prog 3 #[v0, v1, .int .i64 x2] w fun e w' => e = .returned (.bool true) ∧ Below w.heap.size w w' := by
  have H0 := Lib.hid h0
  obtain ⟨A0, c0, A0', c0', A0'', c0'', rfl, _⟩ := h0.parts
  clear h0
  have I0 := Lib.hid i0; clear i0
  have H1 := Lib.hid h1
  obtain ⟨A1, c1, rfl⟩ := h1.shape
  clear h1
  have I1 := Lib.hid i1; clear i1
  have I2 := Lib.hid i2; clear i2
  have hcnt0 := NetD.cnt_le d0
  have hcnt1 := cnt_le_sz d1
  by_cases cond0 : d0.sz ≤ 1048576
  case neg =>
    obtain ⟨w1, HW1⟩ : ∃ W, Hid (W = w.alloc (.cells #[.slice A0 d0.ends.length c0, .slice A0' d0.ids.length c0', .slice A0'' d0.inputs.length c0''] 25)) := ⟨_, Lib.hid rfl⟩
    have hb1 : Below w.heap.size w w1 := by rw [HW1.out]; exact below_a1 _ _
    have hz1 : w.heap.size + 1 ≤ w1.heap.size := by rw [HW1.out]; simp
    have hs1 := hb1.size
    have hbw1 := hb1
    have BX1 : Box3 w1 w.heap.size 25 (.slice A0 d0.ends.length c0) (.slice A0' d0.ids.length c0') (.slice A0'' d0.inputs.length c0'') := by rw [HW1.out]; exact Box3.new _ _ _ _ _
    go_enter Try.func3, Try.ntmps3
    obtain ⟨kc0_0, kc0_1, kc0_2⟩ := BX1.cells
    go_wp2_with fail
    rw [← HW1.out]; clear HW1
    clear kc0_0 kc0_1 kc0_2
    refine (szNetwork_no _ d0 _ _ _ _ (Net.below H0.out hbw1 (Nat.le_refl _)) (by omega) (by omega) (by omega) (by omega)).mono ?_
    rintro e w2 ⟨rfl, hb2⟩
    have hs2 := hb2.size
    have hbw2 := hbw1.trans (hb2.mono (by omega))
    clear hbw1
    have BX1_2 := BX1.below hb2 (by omega); clear BX1
    obtain ⟨kc0_0, kc0_1, kc0_2⟩ := BX1_2.cells
    go_wp2_with fail
    clear kc0_0 kc0_1 kc0_2
    go_ret
    exact ⟨rfl, hbw2⟩
  by_cases cond1 : d0.sz + szSS d1 ≤ 1048576
  case neg =>
    obtain ⟨w1, HW1⟩ : ∃ W, Hid (W = w.alloc (.cells #[.slice A0 d0.ends.length c0, .slice A0' d0.ids.length c0', .slice A0'' d0.inputs.length c0''] 25)) := ⟨_, Lib.hid rfl⟩
    have hb1 : Below w.heap.size w w1 := by rw [HW1.out]; exact below_a1 _ _
    have hz1 : w.heap.size + 1 ≤ w1.heap.size := by rw [HW1.out]; simp
    have hs1 := hb1.size
    have hbw1 := hb1
    have BX1 : Box3 w1 w.heap.size 25 (.slice A0 d0.ends.length c0) (.slice A0' d0.ids.length c0') (.slice A0'' d0.inputs.length c0'') := by rw [HW1.out]; exact Box3.new _ _ _ _ _
    go_enter Try.func3, Try.ntmps3
    obtain ⟨kc0_0, kc0_1, kc0_2⟩ := BX1.cells
    go_wp2_with fail
    rw [← HW1.out]; clear HW1
    clear kc0_0 kc0_1 kc0_2
    refine (szNetwork_yes _ d0 _ _ _ _ (Net.below H0.out hbw1 (Nat.le_refl _)) (by omega) (by omega) (by omega)).mono ?_
    rintro e w2 ⟨rfl, hb2⟩
    have hs2 := hb2.size
    have hbw2 := hbw1.trans (hb2.mono (by omega))
    clear hbw1
    have BX1_2 := BX1.below hb2 (by omega); clear BX1
    obtain ⟨kc0_0, kc0_1, kc0_2⟩ := BX1_2.cells
    go_wp2_with fail
    clear kc0_0 kc0_1 kc0_2
    refine (szIntSS_no _ d1 _ _ _ _ (ISS.below H1.out hbw2 (Nat.le_refl _)) (by omega) (by omega) (by omega) (by omega)).mono ?_
    rintro e w3 ⟨rfl, hb3⟩
    have hs3 := hb3.size
    have hbw3 := hbw2.trans (hb3.mono (by omega))
    clear hbw2
    have BX1_3 := BX1_2.below hb3 (by omega); clear BX1_2
    obtain ⟨kc0_0, kc0_1, kc0_2⟩ := BX1_3.cells
    go_wp2_with fail
    clear kc0_0 kc0_1 kc0_2
    go_ret
    exact ⟨rfl, hbw3⟩
  case pos =>
    obtain ⟨w1, HW1⟩ : ∃ W, Hid (W = w.alloc (.cells #[.slice A0 d0.ends.length c0, .slice A0' d0.ids.length c0', .slice A0'' d0.inputs.length c0''] 25)) := ⟨_, Lib.hid rfl⟩
    have hb1 : Below w.heap.size w w1 := by rw [HW1.out]; exact below_a1 _ _
    have hz1 : w.heap.size + 1 ≤ w1.heap.size := by rw [HW1.out]; simp
    have hs1 := hb1.size
    have hbw1 := hb1
    have BX1 : Box3 w1 w.heap.size 25 (.slice A0 d0.ends.length c0) (.slice A0' d0.ids.length c0') (.slice A0'' d0.inputs.length c0'') := by rw [HW1.out]; exact Box3.new _ _ _ _ _
    go_enter Try.func3, Try.ntmps3
    obtain ⟨kc0_0, kc0_1, kc0_2⟩ := BX1.cells
    go_wp2_with fail
    rw [← HW1.out]; clear HW1
    clear kc0_0 kc0_1 kc0_2
    refine (szNetwork_yes _ d0 _ _ _ _ (Net.below H0.out hbw1 (Nat.le_refl _)) (by omega) (by omega) (by omega)).mono ?_
    rintro e w2 ⟨rfl, hb2⟩
    have hs2 := hb2.size
    have hbw2 := hbw1.trans (hb2.mono (by omega))
    clear hbw1
    have BX1_2 := BX1.below hb2 (by omega); clear BX1
    obtain ⟨kc0_0, kc0_1, kc0_2⟩ := BX1_2.cells
    go_wp2_with fail
    clear kc0_0 kc0_1 kc0_2
    refine (szIntSS_yes _ d1 _ _ _ _ (ISS.below H1.out hbw2 (Nat.le_refl _)) (by omega) (by omega) (by omega)).mono ?_
    rintro e w3 ⟨rfl, hb3⟩
    have hs3 := hb3.size
    have hbw3 := hbw2.trans (hb3.mono (by omega))
    clear hbw2
    have BX1_3 := BX1_2.below hb3 (by omega); clear BX1_2
    obtain ⟨kc0_0, kc0_1, kc0_2⟩ := BX1_3.cells
    go_wp2_with fail
    clear kc0_0 kc0_1 kc0_2
    refine (toNetwork_any _ d0 _ _ _ (Net.below H0.out hbw3 (Nat.le_refl _)) (by omega) (by omega)).mono ?_
    rintro e w4 ⟨r4, rfl, hr4, hb4⟩
    have hs4 := hb4.size
    have hbw4 := hbw3.trans (hb4.mono (by omega))
    clear hbw3
    have BX1_4 := BX1_3.below hb4 (by omega); clear BX1_3
    have R4 := Lib.hid hr4
    obtain ⟨Ar4, cr4, Ar4', cr4', Ar4'', cr4'', rfl, _⟩ := hr4.net.parts
    clear hr4
    obtain ⟨kc0_0, kc0_1, kc0_2⟩ := BX1_4.cells
    go_wp2_with fail
    clear kc0_0 kc0_1 kc0_2
    refine (toIntSS_any _ d1 _ _ _ (ISS.below H1.out hbw4 (Nat.le_refl _)) (by omega) (by omega)).mono ?_
    rintro e w5 ⟨r5, rfl, hr5, hb5⟩
    have hs5 := hb5.size
    have hbw5 := hbw4.trans (hb5.mono (by omega))
    clear hbw4
    have R4_5 := Lib.hid (NetX.below R4.out hb5 (by omega)); clear R4
    have BX1_5 := BX1_4.below hb5 (by omega); clear BX1_4
    have R5 := Lib.hid hr5
    obtain ⟨Ar5, cr5, rfl⟩ := hr5.ss.shape
    clear hr5
    obtain ⟨kc0_0, kc0_1, kc0_2⟩ := BX1_5.cells
    go_wp2_with fail
    clear kc0_0 kc0_1 kc0_2
    refine (IsForestLabeling_spec _ d0 _ _ _ d1 _ _ x2 _ R4_5.out.net (by omega) R5.out.ss (by omega) (by omega) (by omega) I0.out I1.out I2.out).mono ?_
    rintro e w6 ⟨rfl, hb6⟩
    have hs6 := hb6.size
    have hbw6 := hbw5.trans (hb6.mono (by omega))
    clear hbw5
    have R4_6 := Lib.hid (NetX.below R4_5.out hb6 (by omega)); clear R4_5
    have R5_6 := Lib.hid (ISSx.below R5.out hb6 (by omega)); clear R5
    have BX1_6 := BX1_5.below hb6 (by omega); clear BX1_5
    clear R4_6
    clear R5_6
    obtain ⟨kc0_0, kc0_1, kc0_2⟩ := BX1_6.cells
    go_wp2_with fail
    clear kc0_0 kc0_1 kc0_2
    refine (toNetwork_any _ d0 _ _ _ (Net.below H0.out hbw6 (Nat.le_refl _)) (by omega) (by omega)).mono ?_
    rintro e w7 ⟨r7, rfl, hr7, hb7⟩
    have hs7 := hb7.size
    have hbw7 := hbw6.trans (hb7.mono (by omega))
    clear hbw6
    have BX1_7 := BX1_6.below hb7 (by omega); clear BX1_6
    have R7 := Lib.hid hr7
    obtain ⟨Ar7, cr7, Ar7', cr7', Ar7'', cr7'', rfl, _⟩ := hr7.net.parts
    clear hr7
    obtain ⟨w8, HW8⟩ : ∃ W, Hid (W = w7.alloc (.cells #[.slice Ar7 d0.ends.length cr7, .slice Ar7' d0.ids.length cr7', .slice Ar7'' d0.inputs.length cr7''] 33)) := ⟨_, Lib.hid rfl⟩
    have hb8 : Below w7.heap.size w7 w8 := by rw [HW8.out]; exact below_a1 _ _
    have hz8 : w7.heap.size + 1 ≤ w8.heap.size := by rw [HW8.out]; simp
    have hs8 := hb8.size
    have hbw8 := hbw7.trans (hb8.mono (by omega))
    clear hbw7
    have R7_8 := Lib.hid (NetX.below R7.out hb8 (by omega)); clear R7
    have BX1_8 := BX1_7.below hb8 (by omega); clear BX1_7
    have BX8 : Box3 w8 w7.heap.size 33 (.slice Ar7 d0.ends.length cr7) (.slice Ar7' d0.ids.length cr7') (.slice Ar7'' d0.inputs.length cr7'') := by rw [HW8.out]; exact Box3.new _ _ _ _ _
    obtain ⟨kc0_0, kc0_1, kc0_2⟩ := BX1_8.cells
    obtain ⟨kc1_0, kc1_1, kc1_2⟩ := BX8.cells
    go_wp2_with fail
    rw [← HW8.out]; clear HW8
    clear kc0_0 kc0_1 kc0_2 kc1_0 kc1_1 kc1_2
    refine (toIntSS_any _ d1 _ _ _ (ISS.below H1.out hbw8 (Nat.le_refl _)) (by omega) (by omega)).mono ?_
    rintro e w9 ⟨r9, rfl, hr9, hb9⟩
    have hs9 := hb9.size
    have hbw9 := hbw8.trans (hb9.mono (by omega))
    clear hbw8
    have R7_9 := Lib.hid (NetX.below R7_8.out hb9 (by omega)); clear R7_8
    have BX1_9 := BX1_8.below hb9 (by omega); clear BX1_8
    have BX8_9 := BX8.below hb9 (by omega); clear BX8
    have R9 := Lib.hid hr9
    obtain ⟨Ar9, cr9, rfl⟩ := hr9.ss.shape
    clear hr9
    obtain ⟨kc0_0, kc0_1, kc0_2⟩ := BX1_9.cells
    obtain ⟨kc1_0, kc1_1, kc1_2⟩ := BX8_9.cells
    go_wp2_with fail
    clear kc0_0 kc0_1 kc0_2 kc1_0 kc1_1 kc1_2
    refine (IsForestLabeling_impl _ d0 _ _ _ d1 _ _ x2 _ R7_9.out.net (by omega) R9.out.ss (by omega) (by omega) (by omega) I0.out I1.out I2.out).mono ?_
    rintro e w10 ⟨rfl, hb10⟩
    have hs10 := hb10.size
    have hbw10 := hbw9.trans (hb10.mono (by omega))
    clear hbw9
    have R7_10 := Lib.hid (NetX.below R7_9.out hb10 (by omega)); clear R7_9
    have R9_10 := Lib.hid (ISSx.below R9.out hb10 (by omega)); clear R9
    have BX1_10 := BX1_9.below hb10 (by omega); clear BX1_9
    have BX8_10 := BX8_9.below hb10 (by omega); clear BX8_9
    obtain ⟨kc0_0, kc0_1, kc0_2⟩ := BX1_10.cells
    obtain ⟨kc1_0, kc1_1, kc1_2⟩ := BX8_10.cells
    go_wp2_with fail
    have hq11 : w10.heap.size ≤ w10.heap.size := Nat.le_refl _
    go_region_held3 (fun w' => w'.cell? ⟨w.heap.size, 0, none⟩ = some (.slice A0 d0.ends.length c0) ∧ w'.cell? ⟨w.heap.size, 1, none⟩ = some (.slice A0' d0.ids.length c0') ∧ w'.cell? ⟨w.heap.size, 2, none⟩ = some (.slice A0'' d0.inputs.length c0'') ∧ w'.cell? ⟨w7.heap.size, 0, none⟩ = some (.slice Ar7 d0.ends.length cr7) ∧ w'.cell? ⟨w7.heap.size, 1, none⟩ = some (.slice Ar7' d0.ids.length cr7') ∧ w'.cell? ⟨w7.heap.size, 2, none⟩ = some (.slice Ar7'' d0.inputs.length cr7''))
      (first | exact ⟨kc0_0, kc0_1, kc0_2, kc1_0, kc1_1, kc1_2⟩ | exact ⟨(hb11.cell (p := ⟨w.heap.size, 0, none⟩) (by show w.heap.size < w10.heap.size; omega)).trans kc0_0, (hb11.cell (p := ⟨w.heap.size, 1, none⟩) (by show w.heap.size < w10.heap.size; omega)).trans kc0_1, (hb11.cell (p := ⟨w.heap.size, 2, none⟩) (by show w.heap.size < w10.heap.size; omega)).trans kc0_2, (hb11.cell (p := ⟨w7.heap.size, 0, none⟩) (by show w7.heap.size < w10.heap.size; omega)).trans kc1_0, (hb11.cell (p := ⟨w7.heap.size, 1, none⟩) (by show w7.heap.size < w10.heap.size; omega)).trans kc1_1, (hb11.cell (p := ⟨w7.heap.size, 2, none⟩) (by show w7.heap.size < w10.heap.size; omega)).trans kc1_2⟩ | exact ⟨kq11_0, kq11_1, kq11_2, kq11_3, kq11_4, kq11_5⟩)
      (first | (go_at_call 9; refine (toNetwork_any _ d0 _ _ _ (Net.below H0.out hbw10.drew (Nat.le_refl _)) (by show _ ≤ w10.heap.size; omega) (by omega)).mono ?_; rintro e w11 ⟨r11, rfl, hr11, hbd11⟩; have hb11 : Below w10.heap.size w10 w11 := (Below.refl _ _).drew.trans hbd11; clear hbd11; have R11 := Lib.hid hr11; obtain ⟨Ar11, cr11, Ar11', cr11', Ar11'', cr11'', rfl, _⟩ := hr11.net.parts; clear hr11) | (go_at_call 12; refine (eqNetwork_same _ _ d0 _ _ _ _ _ (Net.below (R7_10.out.net) hb11 (by show _ ≤ w10.heap.size; omega)) (R11.out.net) (by have := hb11.size; show _ ≤ w11.heap.size; exact Nat.le_trans (by show _ ≤ w10.heap.size; omega) this) (Nat.le_refl _)).mono ?_; rintro e wq11 ⟨rfl, hbq11⟩; have kq11_0 := (hbq11.cell (p := ⟨w.heap.size, 0, none⟩) (by have := hb11.size; show w.heap.size < w11.heap.size; exact Nat.lt_of_lt_of_le (by show w.heap.size < w10.heap.size; omega) this)).trans ((hb11.cell (p := ⟨w.heap.size, 0, none⟩) (by show w.heap.size < w10.heap.size; omega)).trans kc0_0); have kq11_1 := (hbq11.cell (p := ⟨w.heap.size, 1, none⟩) (by have := hb11.size; show w.heap.size < w11.heap.size; exact Nat.lt_of_lt_of_le (by show w.heap.size < w10.heap.size; omega) this)).trans ((hb11.cell (p := ⟨w.heap.size, 1, none⟩) (by show w.heap.size < w10.heap.size; omega)).trans kc0_1); have kq11_2 := (hbq11.cell (p := ⟨w.heap.size, 2, none⟩) (by have := hb11.size; show w.heap.size < w11.heap.size; exact Nat.lt_of_lt_of_le (by show w.heap.size < w10.heap.size; omega) this)).trans ((hb11.cell (p := ⟨w.heap.size, 2, none⟩) (by show w.heap.size < w10.heap.size; omega)).trans kc0_2); have kq11_3 := (hbq11.cell (p := ⟨w7.heap.size, 0, none⟩) (by have := hb11.size; show w7.heap.size < w11.heap.size; exact Nat.lt_of_lt_of_le (by show w7.heap.size < w10.heap.size; omega) this)).trans ((hb11.cell (p := ⟨w7.heap.size, 0, none⟩) (by show w7.heap.size < w10.heap.size; omega)).trans kc1_0); have kq11_4 := (hbq11.cell (p := ⟨w7.heap.size, 1, none⟩) (by have := hb11.size; show w7.heap.size < w11.heap.size; exact Nat.lt_of_lt_of_le (by show w7.heap.size < w10.heap.size; omega) this)).trans ((hb11.cell (p := ⟨w7.heap.size, 1, none⟩) (by show w7.heap.size < w10.heap.size; omega)).trans kc1_1); have kq11_5 := (hbq11.cell (p := ⟨w7.heap.size, 2, none⟩) (by have := hb11.size; show w7.heap.size < w11.heap.size; exact Nat.lt_of_lt_of_le (by show w7.heap.size < w10.heap.size; omega) this)).trans ((hb11.cell (p := ⟨w7.heap.size, 2, none⟩) (by show w7.heap.size < w10.heap.size; omega)).trans kc1_2)))
    clear kc0_0 kc0_1 kc0_2 kc1_0 kc1_1 kc1_2 hq11 kq11_0 kq11_1 kq11_2 kq11_3 kq11_4 kq11_5
    clear R11
    have hbz11 : Below w10.heap.size w10 wq11 := Below.trans hb11 (hbq11.mono hb11.size)
    clear hb11 hbq11
    have hs11 := hbz11.size
    have hbw11 := hbw10.trans (hbz11.mono (by omega))
    clear hbw10
    have R7_11 := Lib.hid (NetX.below R7_10.out hbz11 (by omega)); clear R7_10
    have R9_11 := Lib.hid (ISSx.below R9_10.out hbz11 (by omega)); clear R9_10
    have BX1_11 := BX1_10.below hbz11 (by omega); clear BX1_10
    have BX8_11 := BX8_10.below hbz11 (by omega); clear BX8_10
    obtain ⟨kc0_0, kc0_1, kc0_2⟩ := BX1_11.cells
    obtain ⟨kc1_0, kc1_1, kc1_2⟩ := BX8_11.cells
    go_wp2_with fail
    clear kc0_0 kc0_1 kc0_2 kc1_0 kc1_1 kc1_2
    refine (toIntSS_any _ d1 _ _ _ (ISS.below H1.out hbw11 (Nat.le_refl _)) (by omega) (by omega)).mono ?_
    rintro e w12 ⟨r12, rfl, hr12, hb12⟩
    have hs12 := hb12.size
    have hbw12 := hbw11.trans (hb12.mono (by omega))
    clear hbw11
    have R7_12 := Lib.hid (NetX.below R7_11.out hb12 (by omega)); clear R7_11
    have R9_12 := Lib.hid (ISSx.below R9_11.out hb12 (by omega)); clear R9_11
    have BX1_12 := BX1_11.below hb12 (by omega); clear BX1_11
    have BX8_12 := BX8_11.below hb12 (by omega); clear BX8_11
    have R12 := Lib.hid hr12
    obtain ⟨Ar12, cr12, rfl⟩ := hr12.ss.shape
    clear hr12
    obtain ⟨kc0_0, kc0_1, kc0_2⟩ := BX1_12.cells
    obtain ⟨kc1_0, kc1_1, kc1_2⟩ := BX8_12.cells
    go_wp2_with fail
    clear kc0_0 kc0_1 kc0_2 kc1_0 kc1_1 kc1_2
    refine (eqIntSS_same _ _ d1 _ _ _ _ _ R9_12.out.ss R12.out.ss (by omega) (by omega)).mono ?_
    rintro e w13 ⟨rfl, hb13⟩
    have hs13 := hb13.size
    have hbw13 := hbw12.trans (hb13.mono (by omega))
    clear hbw12
    have R7_13 := Lib.hid (NetX.below R7_12.out hb13 (by omega)); clear R7_12
    have R9_13 := Lib.hid (ISSx.below R9_12.out hb13 (by omega)); clear R9_12
    have R12_13 := Lib.hid (ISSx.below R12.out hb13 (by omega)); clear R12
    have BX1_13 := BX1_12.below hb13 (by omega); clear BX1_12
    have BX8_13 := BX8_12.below hb13 (by omega); clear BX8_12
    clear R12_13
    go_wp2_with fail
    go_ret
    exact ⟨rfl, hbw13⟩
end Go.Proofs.Ytmfjdiccohgihaa.fnExactIsForestLabeling
