/-
  For all arguments the program's HeightsOf returns what the reference's returns, leaves its arguments as they were, and returns memory of its own. No condition.
-/
import Derived.Test.YtjapdfdjgjajkaaHti
import Derived.Test.YtjapdfdjgjajkaaOpenNet
import Derived.Deep.RegionHeld3
namespace Go.Proofs.Ytjapdfdjgjajkaa.fnExactHeightsOf
open Go.ChangeShapes Go.WideShapes Go.ChangeAt Go.RowKit
set_option linter.unusedVariables false

theorem own : ownKnob Try.prog.godebug = none := by kernel_rfl
theorem laidOut : laidOutB Try.prog = true := by kernel_rfl

set_option maxHeartbeats 8000000 in
set_option maxRecDepth 100000 in
theorem walk (w : World) (v0 : Value) (d0 : NetD) (h0 : Net w 0 w.heap.size v0 d0) (i0 : d0.Ok) (v1 : Value) (d1 : List (List Int)) (h1 : IntSS w 0 w.heap.size v1 d1) (i1 : ∀ l ∈ d1, ∀ z ∈ l, I64 z) :
    Calls Try.prog 5 #[v0, v1] w fun e w' => e = .returned (.bool true) ∧ Below w.heap.size w w' := by
  have H0 := Lib.hid h0
  obtain ⟨A0, c0, A0', c0', A0'', c0'', rfl, _⟩ := h0.parts
  clear h0
  have I0 := Lib.hid i0; clear i0
  have H1 := Lib.hid h1
  obtain ⟨A1, c1, rfl⟩ := h1.shape
  clear h1
  have I1 := Lib.hid i1; clear i1
  have hdl := htOut_len d0 d1
  have hcnt0 := NetD.cnt_le d0
  have hcnt1 := cnt_le_sz d1
  by_cases cond0 : d0.sz ≤ 1048576
  case neg =>
    obtain ⟨w1, HW1⟩ : ∃ W, Hid (W = w.alloc (.cells #[.slice A0 d0.ends.length c0, .slice A0' d0.ids.length c0', .slice A0'' d0.inputs.length c0''] 25)) := ⟨_, Lib.hid rfl⟩
    have hb1 : Below w.heap.size w w1 := by rw [HW1.out]; exact below_a1 _ _
    have hz1 : w.heap.size + 1 ≤ w1.heap.size := by rw [HW1.out]; simp
    have hs1 := hb1.size
    have hbw1 := hb1
    have BX1 : Box3 w1 w.heap.size 25 (.slice A0 d0.ends.length c0) (.slice A0' d0.ids.length c0') (.slice A0'' d0.inputs.length c0'') := by rw [HW1.out]; exact Box3.new _ _ _ _ _
    go_enter Try.func5, Try.ntmps5
    obtain ⟨kc0_0, kc0_1, kc0_2⟩ := BX1.cells
    go_wp2_with fail
    rw [← HW1.out]; clear HW1
    clear kc0_0 kc0_1 kc0_2
    refine (szNetwork_no _ d0 _ _ _ _ (Net.below H0.out hbw1 (Nat.le_refl _)) (by omega) (by omega) (by omega) (by omega)).mono ?_
    rintro e w2 ⟨rfl, hb2⟩
    have hs2 := hb2.size
    have hbw2 := hbw1.trans (hb2.mono (by omega))
    clear hbw1
    have BX1_2 := BX1.below hb2 (by omega); clear BX1
    obtain ⟨kc0_0, kc0_1, kc0_2⟩ := BX1_2.cells
    go_wp2_with fail
    clear kc0_0 kc0_1 kc0_2
    go_ret
    exact ⟨rfl, hbw2⟩
  by_cases cond1 : d0.sz + szSS d1 ≤ 1048576
  case neg =>
    obtain ⟨w1, HW1⟩ : ∃ W, Hid (W = w.alloc (.cells #[.slice A0 d0.ends.length c0, .slice A0' d0.ids.length c0', .slice A0'' d0.inputs.length c0''] 25)) := ⟨_, Lib.hid rfl⟩
    have hb1 : Below w.heap.size w w1 := by rw [HW1.out]; exact below_a1 _ _
    have hz1 : w.heap.size + 1 ≤ w1.heap.size := by rw [HW1.out]; simp
    have hs1 := hb1.size
    have hbw1 := hb1
    have BX1 : Box3 w1 w.heap.size 25 (.slice A0 d0.ends.length c0) (.slice A0' d0.ids.length c0') (.slice A0'' d0.inputs.length c0'') := by rw [HW1.out]; exact Box3.new _ _ _ _ _
    go_enter Try.func5, Try.ntmps5
    obtain ⟨kc0_0, kc0_1, kc0_2⟩ := BX1.cells
    go_wp2_with fail
    rw [← HW1.out]; clear HW1
    clear kc0_0 kc0_1 kc0_2
    refine (szNetwork_yes _ d0 _ _ _ _ (Net.below H0.out hbw1 (Nat.le_refl _)) (by omega) (by omega) (by omega)).mono ?_
    rintro e w2 ⟨rfl, hb2⟩
    have hs2 := hb2.size
    have hbw2 := hbw1.trans (hb2.mono (by omega))
    clear hbw1
    have BX1_2 := BX1.below hb2 (by omega); clear BX1
    obtain ⟨kc0_0, kc0_1, kc0_2⟩ := BX1_2.cells
    go_wp2_with fail
    clear kc0_0 kc0_1 kc0_2
    refine (szIntSS_no _ d1 _ _ _ _ (ISS.below H1.out hbw2 (Nat.le_refl _)) (by omega) (by omega) (by omega) (by omega)).mono ?_
    rintro e w3 ⟨rfl, hb3⟩
    have hs3 := hb3.size
    have hbw3 := hbw2.trans (hb3.mono (by omega))
    clear hbw2
    have BX1_3 := BX1_2.below hb3 (by omega); clear BX1_2
    obtain ⟨kc0_0, kc0_1, kc0_2⟩ := BX1_3.cells
    go_wp2_with fail
    clear kc0_0 kc0_1 kc0_2
    go_ret
    exact ⟨rfl, hbw3⟩
  case pos =>
    obtain ⟨w1, HW1⟩ : ∃ W, Hid (W = w.alloc (.cells #[.slice A0 d0.ends.length c0, .slice A0' d0.ids.length c0', .slice A0'' d0.inputs.length c0''] 25)) := ⟨_, Lib.hid rfl⟩
    have hb1 : Below w.heap.size w w1 := by rw [HW1.out]; exact below_a1 _ _
    have hz1 : w.heap.size + 1 ≤ w1.heap.size := by rw [HW1.out]; simp
    have hs1 := hb1.size
    have hbw1 := hb1
    have BX1 : Box3 w1 w.heap.size 25 (.slice A0 d0.ends.length c0) (.slice A0' d0.ids.length c0') (.slice A0'' d0.inputs.length c0'') := by rw [HW1.out]; exact Box3.new _ _ _ _ _
    go_enter Try.func5, Try.ntmps5
    obtain ⟨kc0_0, kc0_1, kc0_2⟩ := BX1.cells
    go_wp2_with fail
    rw [← HW1.out]; clear HW1
    clear kc0_0 kc0_1 kc0_2
    refine (szNetwork_yes _ d0 _ _ _ _ (Net.below H0.out hbw1 (Nat.le_refl _)) (by omega) (by omega) (by omega)).mono ?_
    rintro e w2 ⟨rfl, hb2⟩
    have hs2 := hb2.size
    have hbw2 := hbw1.trans (hb2.mono (by omega))
    clear hbw1
    have BX1_2 := BX1.below hb2 (by omega); clear BX1
    obtain ⟨kc0_0, kc0_1, kc0_2⟩ := BX1_2.cells
    go_wp2_with fail
    clear kc0_0 kc0_1 kc0_2
    refine (szIntSS_yes _ d1 _ _ _ _ (ISS.below H1.out hbw2 (Nat.le_refl _)) (by omega) (by omega) (by omega)).mono ?_
    rintro e w3 ⟨rfl, hb3⟩
    have hs3 := hb3.size
    have hbw3 := hbw2.trans (hb3.mono (by omega))
    clear hbw2
    have BX1_3 := BX1_2.below hb3 (by omega); clear BX1_2
    obtain ⟨kc0_0, kc0_1, kc0_2⟩ := BX1_3.cells
    go_wp2_with fail
    clear kc0_0 kc0_1 kc0_2
    refine (toNetwork_any _ d0 _ _ _ (Net.below H0.out hbw3 (Nat.le_refl _)) (by omega) (by omega)).mono ?_
    rintro e w4 ⟨r4, rfl, hr4, hb4⟩
    have hs4 := hb4.size
    have hbw4 := hbw3.trans (hb4.mono (by omega))
    clear hbw3
    have BX1_4 := BX1_3.below hb4 (by omega); clear BX1_3
    have R4 := Lib.hid hr4
    obtain ⟨Ar4, cr4, Ar4', cr4', Ar4'', cr4'', rfl, _⟩ := hr4.net.parts
    clear hr4
    obtain ⟨kc0_0, kc0_1, kc0_2⟩ := BX1_4.cells
    go_wp2_with fail
    clear kc0_0 kc0_1 kc0_2
    refine (toIntSS_any _ d1 _ _ _ (ISS.below H1.out hbw4 (Nat.le_refl _)) (by omega) (by omega)).mono ?_
    rintro e w5 ⟨r5, rfl, hr5, hb5⟩
    have hs5 := hb5.size
    have hbw5 := hbw4.trans (hb5.mono (by omega))
    clear hbw4
    have R4_5 := Lib.hid (NetX.below R4.out hb5 (by omega)); clear R4
    have BX1_5 := BX1_4.below hb5 (by omega); clear BX1_4
    have R5 := Lib.hid hr5
    obtain ⟨Ar5, cr5, rfl⟩ := hr5.ss.shape
    clear hr5
    obtain ⟨kc0_0, kc0_1, kc0_2⟩ := BX1_5.cells
    go_wp2_with fail
    clear kc0_0 kc0_1 kc0_2
    refine (HeightsOf_spec _ d0 _ _ _ d1 _ _ _ R4_5.out.net (by omega) R5.out.ss (by omega) (by omega) (by omega) I0.out I1.out).mono ?_
    rintro e w6 ⟨r6_0, rfl, hr6_0, hb6⟩
    have hs6 := hb6.size
    have hbw6 := hbw5.trans (hb6.mono (by omega))
    clear hbw5
    have R4_6 := Lib.hid (NetX.below R4_5.out hb6 (by omega)); clear R4_5
    have R5_6 := Lib.hid (ISSx.below R5.out hb6 (by omega)); clear R5
    have BX1_6 := BX1_5.below hb6 (by omega); clear BX1_5
    have R6_0 := Lib.hid hr6_0
    obtain ⟨Ar6_0, cr6_0, rfl⟩ := hr6_0.shape
    clear hr6_0
    clear R4_6
    clear R5_6
    obtain ⟨kc0_0, kc0_1, kc0_2⟩ := BX1_6.cells
    go_wp2_with fail
    clear kc0_0 kc0_1 kc0_2
    refine (toNetwork_any _ d0 _ _ _ (Net.below H0.out hbw6 (Nat.le_refl _)) (by omega) (by omega)).mono ?_
    rintro e w7 ⟨r7, rfl, hr7, hb7⟩
    have hs7 := hb7.size
    have hbw7 := hbw6.trans (hb7.mono (by omega))
    clear hbw6
    have R6_0_7 := Lib.hid (IntS.below R6_0.out hb7 (by omega)); clear R6_0
    have BX1_7 := BX1_6.below hb7 (by omega); clear BX1_6
    have R7 := Lib.hid hr7
    obtain ⟨Ar7, cr7, Ar7', cr7', Ar7'', cr7'', rfl, _⟩ := hr7.net.parts
    clear hr7
    obtain ⟨w8, HW8⟩ : ∃ W, Hid (W = w7.alloc (.cells #[.slice Ar7 d0.ends.length cr7, .slice Ar7' d0.ids.length cr7', .slice Ar7'' d0.inputs.length cr7''] 32)) := ⟨_, Lib.hid rfl⟩
    have hb8 : Below w7.heap.size w7 w8 := by rw [HW8.out]; exact below_a1 _ _
    have hz8 : w7.heap.size + 1 ≤ w8.heap.size := by rw [HW8.out]; simp
    have hs8 := hb8.size
    have hbw8 := hbw7.trans (hb8.mono (by omega))
    clear hbw7
    have R6_0_8 := Lib.hid (IntS.below R6_0_7.out hb8 (by omega)); clear R6_0_7
    have R7_8 := Lib.hid (NetX.below R7.out hb8 (by omega)); clear R7
    have BX1_8 := BX1_7.below hb8 (by omega); clear BX1_7
    have BX8 : Box3 w8 w7.heap.size 32 (.slice Ar7 d0.ends.length cr7) (.slice Ar7' d0.ids.length cr7') (.slice Ar7'' d0.inputs.length cr7'') := by rw [HW8.out]; exact Box3.new _ _ _ _ _
    obtain ⟨kc0_0, kc0_1, kc0_2⟩ := BX1_8.cells
    obtain ⟨kc1_0, kc1_1, kc1_2⟩ := BX8.cells
    go_wp2_with fail
    rw [← HW8.out]; clear HW8
    clear kc0_0 kc0_1 kc0_2 kc1_0 kc1_1 kc1_2
    refine (toIntSS_any _ d1 _ _ _ (ISS.below H1.out hbw8 (Nat.le_refl _)) (by omega) (by omega)).mono ?_
    rintro e w9 ⟨r9, rfl, hr9, hb9⟩
    have hs9 := hb9.size
    have hbw9 := hbw8.trans (hb9.mono (by omega))
    clear hbw8
    have R6_0_9 := Lib.hid (IntS.below R6_0_8.out hb9 (by omega)); clear R6_0_8
    have R7_9 := Lib.hid (NetX.below R7_8.out hb9 (by omega)); clear R7_8
    have BX1_9 := BX1_8.below hb9 (by omega); clear BX1_8
    have BX8_9 := BX8.below hb9 (by omega); clear BX8
    have R9 := Lib.hid hr9
    obtain ⟨Ar9, cr9, rfl⟩ := hr9.ss.shape
    clear hr9
    obtain ⟨kc0_0, kc0_1, kc0_2⟩ := BX1_9.cells
    obtain ⟨kc1_0, kc1_1, kc1_2⟩ := BX8_9.cells
    go_wp2_with fail
    clear kc0_0 kc0_1 kc0_2 kc1_0 kc1_1 kc1_2
    refine (HeightsOf_impl _ d0 _ _ _ d1 _ _ _ R7_9.out.net (by omega) R9.out.ss (by omega) (by omega) (by omega) I0.out I1.out).mono ?_
    rintro e w10 ⟨r10_0, rfl, hr10_0, hb10⟩
    have hs10 := hb10.size
    have hbw10 := hbw9.trans (hb10.mono (by omega))
    clear hbw9
    have R6_0_10 := Lib.hid (IntS.below R6_0_9.out hb10 (by omega)); clear R6_0_9
    have R7_10 := Lib.hid (NetX.below R7_9.out hb10 (by omega)); clear R7_9
    have R9_10 := Lib.hid (ISSx.below R9.out hb10 (by omega)); clear R9
    have BX1_10 := BX1_9.below hb10 (by omega); clear BX1_9
    have BX8_10 := BX8_9.below hb10 (by omega); clear BX8_9
    have R10_0 := Lib.hid hr10_0
    obtain ⟨Ar10_0, cr10_0, rfl⟩ := hr10_0.shape
    clear hr10_0
    obtain ⟨kc0_0, kc0_1, kc0_2⟩ := BX1_10.cells
    obtain ⟨kc1_0, kc1_1, kc1_2⟩ := BX8_10.cells
    go_wp2_with fail
    clear kc0_0 kc0_1 kc0_2 kc1_0 kc1_1 kc1_2
    refine (eqIntS_same _ _ (htOut d0 d1) _ _ _ _ _ R10_0.out R6_0_10.out (by omega) (by omega)).mono ?_
    rintro e w11 ⟨rfl, hb11⟩
    have hs11 := hb11.size
    have hbw11 := hbw10.trans (hb11.mono (by omega))
    clear hbw10
    have R6_0_11 := Lib.hid (IntS.below R6_0_10.out hb11 (by omega)); clear R6_0_10
    have R7_11 := Lib.hid (NetX.below R7_10.out hb11 (by omega)); clear R7_10
    have R9_11 := Lib.hid (ISSx.below R9_10.out hb11 (by omega)); clear R9_10
    have R10_0_11 := Lib.hid (IntS.below R10_0.out hb11 (by omega)); clear R10_0
    have BX1_11 := BX1_10.below hb11 (by omega); clear BX1_10
    have BX8_11 := BX8_10.below hb11 (by omega); clear BX8_10
    obtain ⟨kc0_0, kc0_1, kc0_2⟩ := BX1_11.cells
    obtain ⟨kc1_0, kc1_1, kc1_2⟩ := BX8_11.cells
    go_wp2_with fail
    have hq12 : w11.heap.size ≤ w11.heap.size := Nat.le_refl _
    go_region_held3 (fun w' => w'.cell? ⟨w.heap.size, 0, none⟩ = some (.slice A0 d0.ends.length c0) ∧ w'.cell? ⟨w.heap.size, 1, none⟩ = some (.slice A0' d0.ids.length c0') ∧ w'.cell? ⟨w.heap.size, 2, none⟩ = some (.slice A0'' d0.inputs.length c0'') ∧ w'.cell? ⟨w7.heap.size, 0, none⟩ = some (.slice Ar7 d0.ends.length cr7) ∧ w'.cell? ⟨w7.heap.size, 1, none⟩ = some (.slice Ar7' d0.ids.length cr7') ∧ w'.cell? ⟨w7.heap.size, 2, none⟩ = some (.slice Ar7'' d0.inputs.length cr7''))
      (first | exact ⟨kc0_0, kc0_1, kc0_2, kc1_0, kc1_1, kc1_2⟩ | exact ⟨(hb12.cell (p := ⟨w.heap.size, 0, none⟩) (by show w.heap.size < w11.heap.size; omega)).trans kc0_0, (hb12.cell (p := ⟨w.heap.size, 1, none⟩) (by show w.heap.size < w11.heap.size; omega)).trans kc0_1, (hb12.cell (p := ⟨w.heap.size, 2, none⟩) (by show w.heap.size < w11.heap.size; omega)).trans kc0_2, (hb12.cell (p := ⟨w7.heap.size, 0, none⟩) (by show w7.heap.size < w11.heap.size; omega)).trans kc1_0, (hb12.cell (p := ⟨w7.heap.size, 1, none⟩) (by show w7.heap.size < w11.heap.size; omega)).trans kc1_1, (hb12.cell (p := ⟨w7.heap.size, 2, none⟩) (by show w7.heap.size < w11.heap.size; omega)).trans kc1_2⟩ | exact ⟨kq12_0, kq12_1, kq12_2, kq12_3, kq12_4, kq12_5⟩)
      (first | (go_at_call 8; refine (toNetwork_any _ d0 _ _ _ (Net.below H0.out hbw11.drew (Nat.le_refl _)) (by show _ ≤ w11.heap.size; omega) (by omega)).mono ?_; rintro e w12 ⟨r12, rfl, hr12, hbd12⟩; have hb12 : Below w11.heap.size w11 w12 := (Below.refl _ _).drew.trans hbd12; clear hbd12; have R12 := Lib.hid hr12; obtain ⟨Ar12, cr12, Ar12', cr12', Ar12'', cr12'', rfl, _⟩ := hr12.net.parts; clear hr12) | (go_at_call 11; refine (eqNetwork_same _ _ d0 _ _ _ _ _ (Net.below (R7_11.out.net) hb12 (by show _ ≤ w11.heap.size; omega)) (R12.out.net) (by have := hb12.size; show _ ≤ w12.heap.size; exact Nat.le_trans (by show _ ≤ w11.heap.size; omega) this) (Nat.le_refl _)).mono ?_; rintro e wq12 ⟨rfl, hbq12⟩; have kq12_0 := (hbq12.cell (p := ⟨w.heap.size, 0, none⟩) (by have := hb12.size; show w.heap.size < w12.heap.size; exact Nat.lt_of_lt_of_le (by show w.heap.size < w11.heap.size; omega) this)).trans ((hb12.cell (p := ⟨w.heap.size, 0, none⟩) (by show w.heap.size < w11.heap.size; omega)).trans kc0_0); have kq12_1 := (hbq12.cell (p := ⟨w.heap.size, 1, none⟩) (by have := hb12.size; show w.heap.size < w12.heap.size; exact Nat.lt_of_lt_of_le (by show w.heap.size < w11.heap.size; omega) this)).trans ((hb12.cell (p := ⟨w.heap.size, 1, none⟩) (by show w.heap.size < w11.heap.size; omega)).trans kc0_1); have kq12_2 := (hbq12.cell (p := ⟨w.heap.size, 2, none⟩) (by have := hb12.size; show w.heap.size < w12.heap.size; exact Nat.lt_of_lt_of_le (by show w.heap.size < w11.heap.size; omega) this)).trans ((hb12.cell (p := ⟨w.heap.size, 2, none⟩) (by show w.heap.size < w11.heap.size; omega)).trans kc0_2); have kq12_3 := (hbq12.cell (p := ⟨w7.heap.size, 0, none⟩) (by have := hb12.size; show w7.heap.size < w12.heap.size; exact Nat.lt_of_lt_of_le (by show w7.heap.size < w11.heap.size; omega) this)).trans ((hb12.cell (p := ⟨w7.heap.size, 0, none⟩) (by show w7.heap.size < w11.heap.size; omega)).trans kc1_0); have kq12_4 := (hbq12.cell (p := ⟨w7.heap.size, 1, none⟩) (by have := hb12.size; show w7.heap.size < w12.heap.size; exact Nat.lt_of_lt_of_le (by show w7.heap.size < w11.heap.size; omega) this)).trans ((hb12.cell (p := ⟨w7.heap.size, 1, none⟩) (by show w7.heap.size < w11.heap.size; omega)).trans kc1_1); have kq12_5 := (hbq12.cell (p := ⟨w7.heap.size, 2, none⟩) (by have := hb12.size; show w7.heap.size < w12.heap.size; exact Nat.lt_of_lt_of_le (by show w7.heap.size < w11.heap.size; omega) this)).trans ((hb12.cell (p := ⟨w7.heap.size, 2, none⟩) (by show w7.heap.size < w11.heap.size; omega)).trans kc1_2)))
    clear kc0_0 kc0_1 kc0_2 kc1_0 kc1_1 kc1_2 hq12 kq12_0 kq12_1 kq12_2 kq12_3 kq12_4 kq12_5
    clear R12
    have hbz12 : Below w11.heap.size w11 wq12 := Below.trans hb12 (hbq12.mono hb12.size)
    clear hb12 hbq12
    have hs12 := hbz12.size
    have hbw12 := hbw11.trans (hbz12.mono (by omega))
    clear hbw11
    have R6_0_12 := Lib.hid (IntS.below R6_0_11.out hbz12 (by omega)); clear R6_0_11
    have R7_12 := Lib.hid (NetX.below R7_11.out hbz12 (by omega)); clear R7_11
    have R9_12 := Lib.hid (ISSx.below R9_11.out hbz12 (by omega)); clear R9_11
    have R10_0_12 := Lib.hid (IntS.below R10_0_11.out hbz12 (by omega)); clear R10_0_11
    have BX1_12 := BX1_11.below hbz12 (by omega); clear BX1_11
    have BX8_12 := BX8_11.below hbz12 (by omega); clear BX8_11
    obtain ⟨kc0_0, kc0_1, kc0_2⟩ := BX1_12.cells
    obtain ⟨kc1_0, kc1_1, kc1_2⟩ := BX8_12.cells
    go_wp2_with fail
    clear kc0_0 kc0_1 kc0_2 kc1_0 kc1_1 kc1_2
    refine (toIntSS_any _ d1 _ _ _ (ISS.below H1.out hbw12 (Nat.le_refl _)) (by omega) (by omega)).mono ?_
    rintro e w13 ⟨r13, rfl, hr13, hb13⟩
    have hs13 := hb13.size
    have hbw13 := hbw12.trans (hb13.mono (by omega))
    clear hbw12
    have R6_0_13 := Lib.hid (IntS.below R6_0_12.out hb13 (by omega)); clear R6_0_12
    have R7_13 := Lib.hid (NetX.below R7_12.out hb13 (by omega)); clear R7_12
    have R9_13 := Lib.hid (ISSx.below R9_12.out hb13 (by omega)); clear R9_12
    have R10_0_13 := Lib.hid (IntS.below R10_0_12.out hb13 (by omega)); clear R10_0_12
    have BX1_13 := BX1_12.below hb13 (by omega); clear BX1_12
    have BX8_13 := BX8_12.below hb13 (by omega); clear BX8_12
    have R13 := Lib.hid hr13
    obtain ⟨Ar13, cr13, rfl⟩ := hr13.ss.shape
    clear hr13
    obtain ⟨kc0_0, kc0_1, kc0_2⟩ := BX1_13.cells
    obtain ⟨kc1_0, kc1_1, kc1_2⟩ := BX8_13.cells
    go_wp2_with fail
    clear kc0_0 kc0_1 kc0_2 kc1_0 kc1_1 kc1_2
    refine (eqIntSS_same _ _ d1 _ _ _ _ _ R9_13.out.ss R13.out.ss (by omega) (by omega)).mono ?_
    rintro e w14 ⟨rfl, hb14⟩
    have hs14 := hb14.size
    have hbw14 := hbw13.trans (hb14.mono (by omega))
    clear hbw13
    have R6_0_14 := Lib.hid (IntS.below R6_0_13.out hb14 (by omega)); clear R6_0_13
    have R7_14 := Lib.hid (NetX.below R7_13.out hb14 (by omega)); clear R7_13
    have R9_14 := Lib.hid (ISSx.below R9_13.out hb14 (by omega)); clear R9_13
    have R10_0_14 := Lib.hid (IntS.below R10_0_13.out hb14 (by omega)); clear R10_0_13
    have R13_14 := Lib.hid (ISSx.below R13.out hb14 (by omega)); clear R13
    have BX1_14 := BX1_13.below hb14 (by omega); clear BX1_13
    have BX8_14 := BX8_13.below hb14 (by omega); clear BX8_13
    clear R13_14
    obtain ⟨kc0_0, kc0_1, kc0_2⟩ := BX1_14.cells
    obtain ⟨kc1_0, kc1_1, kc1_2⟩ := BX8_14.cells
    go_wp2_with fail
    clear kc0_0 kc0_1 kc0_2 kc1_0 kc1_1 kc1_2
    refine (markNetwork_any _ d0 _ _ _ _ R7_14.out (by omega) (by omega) (by omega) (by omega)).mono ?_
    rintro e w15 ⟨rfl, hr15, ht15⟩
    have hs15 := ht15.size
    have hbw15 := hbw14.trans ((ht15.below (by omega)).mono (by omega))
    clear hbw14
    have R6_0_15 := Lib.hid (IntS.turned R6_0_14.out ht15 (by omega) (by omega)); clear R6_0_14
    have R9_15 := Lib.hid (ISSx.turned R9_14.out ht15 (by omega) (by omega)); clear R9_14
    have R10_0_15 := Lib.hid (IntS.turned R10_0_14.out ht15 (by omega) (by omega)); clear R10_0_14
    have BX1_15 : Box3 w15 w.heap.size 25 (.slice A0 d0.ends.length c0) (.slice A0' d0.ids.length c0') (.slice A0'' d0.inputs.length c0'') := (ht15.block _ (by omega) (by omega)).trans BX1_14; clear BX1_14
    have BX8_15 : Box3 w15 w7.heap.size 32 (.slice Ar7 d0.ends.length cr7) (.slice Ar7' d0.ids.length cr7') (.slice Ar7'' d0.inputs.length cr7'') := (ht15.block _ (by omega) (by omega)).trans BX8_14; clear BX8_14
    clear R7_14
    have R7_15 := Lib.hid hr15; clear hr15
    obtain ⟨kc0_0, kc0_1, kc0_2⟩ := BX1_15.cells
    obtain ⟨kc1_0, kc1_1, kc1_2⟩ := BX8_15.cells
    go_wp2_with fail
    clear kc0_0 kc0_1 kc0_2 kc1_0 kc1_1 kc1_2
    refine (markIntSS_any _ d1 _ _ _ _ R9_15.out (by omega) (by omega) (by omega) (by omega)).mono ?_
    rintro e w16 ⟨rfl, hr16, ht16⟩
    have hs16 := ht16.size
    have hbw16 := hbw15.trans ((ht16.below (by omega)).mono (by omega))
    clear hbw15
    have R6_0_16 := Lib.hid (IntS.turned R6_0_15.out ht16 (by omega) (by omega)); clear R6_0_15
    have R7_16 := Lib.hid (NetX.turned R7_15.out ht16 (by omega) (by omega)); clear R7_15
    have R10_0_16 := Lib.hid (IntS.turned R10_0_15.out ht16 (by omega) (by omega)); clear R10_0_15
    have BX1_16 : Box3 w16 w.heap.size 25 (.slice A0 d0.ends.length c0) (.slice A0' d0.ids.length c0') (.slice A0'' d0.inputs.length c0'') := (ht16.block _ (by omega) (by omega)).trans BX1_15; clear BX1_15
    have BX8_16 : Box3 w16 w7.heap.size 32 (.slice Ar7 d0.ends.length cr7) (.slice Ar7' d0.ids.length cr7') (.slice Ar7'' d0.inputs.length cr7'') := (ht16.block _ (by omega) (by omega)).trans BX8_15; clear BX8_15
    clear R9_15
    have R9_16 := Lib.hid hr16; clear hr16
    obtain ⟨kc0_0, kc0_1, kc0_2⟩ := BX1_16.cells
    obtain ⟨kc1_0, kc1_1, kc1_2⟩ := BX8_16.cells
    go_wp2_with fail
    clear kc0_0 kc0_1 kc0_2 kc1_0 kc1_1 kc1_2
    refine (eqIntS_same _ _ (htOut d0 d1) _ _ _ _ _ R10_0_16.out R6_0_16.out (by omega) (by omega)).mono ?_
    rintro e w17 ⟨rfl, hb17⟩
    have hs17 := hb17.size
    have hbw17 := hbw16.trans (hb17.mono (by omega))
    clear hbw16
    have R6_0_17 := Lib.hid (IntS.below R6_0_16.out hb17 (by omega)); clear R6_0_16
    have R7_17 := Lib.hid (NetX.below R7_16.out hb17 (by omega)); clear R7_16
    have R9_17 := Lib.hid (ISSx.below R9_16.out hb17 (by omega)); clear R9_16
    have R10_0_17 := Lib.hid (IntS.below R10_0_16.out hb17 (by omega)); clear R10_0_16
    have BX1_17 := BX1_16.below hb17 (by omega); clear BX1_16
    have BX8_17 := BX8_16.below hb17 (by omega); clear BX8_16
    obtain ⟨kc0_0, kc0_1, kc0_2⟩ := BX1_17.cells
    obtain ⟨kc1_0, kc1_1, kc1_2⟩ := BX8_17.cells
    go_wp2_with fail
    clear kc0_0 kc0_1 kc0_2 kc1_0 kc1_1 kc1_2
    refine (markIntS_any _ (htOut d0 d1) _ _ _ _ R10_0_17.out (by omega) (by omega) (by omega) (by omega)).mono ?_
    rintro e w18 ⟨rfl, hr18, hg18, hzz18⟩
    have ht18 := Turned.of_row R10_0_17.out hg18; clear hg18 hzz18
    have hs18 := ht18.size
    have hbw18 := hbw17.trans ((ht18.below (by omega)).mono (by omega))
    clear hbw17
    have R6_0_18 := Lib.hid (IntS.turned R6_0_17.out ht18 (by omega) (by omega)); clear R6_0_17
    have R7_18 := Lib.hid (NetX.turned R7_17.out ht18 (by omega) (by omega)); clear R7_17
    have R9_18 := Lib.hid (ISSx.turned R9_17.out ht18 (by omega) (by omega)); clear R9_17
    have BX1_18 : Box3 w18 w.heap.size 25 (.slice A0 d0.ends.length c0) (.slice A0' d0.ids.length c0') (.slice A0'' d0.inputs.length c0'') := (ht18.block _ (by omega) (by omega)).trans BX1_17; clear BX1_17
    have BX8_18 : Box3 w18 w7.heap.size 32 (.slice Ar7 d0.ends.length cr7) (.slice Ar7' d0.ids.length cr7') (.slice Ar7'' d0.inputs.length cr7'') := (ht18.block _ (by omega) (by omega)).trans BX8_17; clear BX8_17
    clear R10_0_17
    have R10_0_18 := Lib.hid hr18; clear hr18
    obtain ⟨kc0_0, kc0_1, kc0_2⟩ := BX1_18.cells
    obtain ⟨kc1_0, kc1_1, kc1_2⟩ := BX8_18.cells
    go_wp2_with fail
    clear kc0_0 kc0_1 kc0_2 kc1_0 kc1_1 kc1_2
    refine (heldIntS_yes _ (htOut d0 d1) _ _ _ _ R10_0_18.out (by omega) (by omega) (by omega)).mono ?_
    rintro e w19 ⟨rfl, hb19⟩
    have hs19 := hb19.size
    have hbw19 := hbw18.trans (hb19.mono (by omega))
    clear hbw18
    have R6_0_19 := Lib.hid (IntS.below R6_0_18.out hb19 (by omega)); clear R6_0_18
    have R7_19 := Lib.hid (NetX.below R7_18.out hb19 (by omega)); clear R7_18
    have R9_19 := Lib.hid (ISSx.below R9_18.out hb19 (by omega)); clear R9_18
    have R10_0_19 := Lib.hid (IntS.below R10_0_18.out hb19 (by omega)); clear R10_0_18
    have BX1_19 := BX1_18.below hb19 (by omega); clear BX1_18
    have BX8_19 := BX8_18.below hb19 (by omega); clear BX8_18
    obtain ⟨kc0_0, kc0_1, kc0_2⟩ := BX1_19.cells
    obtain ⟨kc1_0, kc1_1, kc1_2⟩ := BX8_19.cells
    go_wp2_with fail
    clear kc0_0 kc0_1 kc0_2 kc1_0 kc1_1 kc1_2
    refine (toNetwork_any _ d0 _ _ _ (Net.below H0.out hbw19 (Nat.le_refl _)) (by omega) (by omega)).mono ?_
    rintro e w20 ⟨r20, rfl, hr20, hb20⟩
    have hs20 := hb20.size
    have hbw20 := hbw19.trans (hb20.mono (by omega))
    clear hbw19
    have R6_0_20 := Lib.hid (IntS.below R6_0_19.out hb20 (by omega)); clear R6_0_19
    have R7_20 := Lib.hid (NetX.below R7_19.out hb20 (by omega)); clear R7_19
    have R9_20 := Lib.hid (ISSx.below R9_19.out hb20 (by omega)); clear R9_19
    have R10_0_20 := Lib.hid (IntS.below R10_0_19.out hb20 (by omega)); clear R10_0_19
    have BX1_20 := BX1_19.below hb20 (by omega); clear BX1_19
    have BX8_20 := BX8_19.below hb20 (by omega); clear BX8_19
    have R20 := Lib.hid hr20
    obtain ⟨Ar20, cr20, Ar20', cr20', Ar20'', cr20'', rfl, _⟩ := hr20.net.parts
    clear hr20
    obtain ⟨kc0_0, kc0_1, kc0_2⟩ := BX1_20.cells
    obtain ⟨kc1_0, kc1_1, kc1_2⟩ := BX8_20.cells
    go_wp2_with fail
    clear kc0_0 kc0_1 kc0_2 kc1_0 kc1_1 kc1_2
    refine (toIntSS_any _ d1 _ _ _ (ISS.below H1.out hbw20 (Nat.le_refl _)) (by omega) (by omega)).mono ?_
    rintro e w21 ⟨r21, rfl, hr21, hb21⟩
    have hs21 := hb21.size
    have hbw21 := hbw20.trans (hb21.mono (by omega))
    clear hbw20
    have R6_0_21 := Lib.hid (IntS.below R6_0_20.out hb21 (by omega)); clear R6_0_20
    have R7_21 := Lib.hid (NetX.below R7_20.out hb21 (by omega)); clear R7_20
    have R9_21 := Lib.hid (ISSx.below R9_20.out hb21 (by omega)); clear R9_20
    have R10_0_21 := Lib.hid (IntS.below R10_0_20.out hb21 (by omega)); clear R10_0_20
    have R20_21 := Lib.hid (NetX.below R20.out hb21 (by omega)); clear R20
    have BX1_21 := BX1_20.below hb21 (by omega); clear BX1_20
    have BX8_21 := BX8_20.below hb21 (by omega); clear BX8_20
    have R21 := Lib.hid hr21
    obtain ⟨Ar21, cr21, rfl⟩ := hr21.ss.shape
    clear hr21
    obtain ⟨kc0_0, kc0_1, kc0_2⟩ := BX1_21.cells
    obtain ⟨kc1_0, kc1_1, kc1_2⟩ := BX8_21.cells
    go_wp2_with fail
    clear kc0_0 kc0_1 kc0_2 kc1_0 kc1_1 kc1_2
    refine (HeightsOf_impl _ d0 _ _ _ d1 _ _ _ R20_21.out.net (by omega) R21.out.ss (by omega) (by omega) (by omega) I0.out I1.out).mono ?_
    rintro e w22 ⟨r22_0, rfl, hr22_0, hb22⟩
    have hs22 := hb22.size
    have hbw22 := hbw21.trans (hb22.mono (by omega))
    clear hbw21
    have R6_0_22 := Lib.hid (IntS.below R6_0_21.out hb22 (by omega)); clear R6_0_21
    have R7_22 := Lib.hid (NetX.below R7_21.out hb22 (by omega)); clear R7_21
    have R9_22 := Lib.hid (ISSx.below R9_21.out hb22 (by omega)); clear R9_21
    have R10_0_22 := Lib.hid (IntS.below R10_0_21.out hb22 (by omega)); clear R10_0_21
    have R20_22 := Lib.hid (NetX.below R20_21.out hb22 (by omega)); clear R20_21
    have R21_22 := Lib.hid (ISSx.below R21.out hb22 (by omega)); clear R21
    have BX1_22 := BX1_21.below hb22 (by omega); clear BX1_21
    have BX8_22 := BX8_21.below hb22 (by omega); clear BX8_21
    have R22_0 := Lib.hid hr22_0
    obtain ⟨Ar22_0, cr22_0, rfl⟩ := hr22_0.shape
    clear hr22_0
    clear R20_22
    clear R21_22
    obtain ⟨kc0_0, kc0_1, kc0_2⟩ := BX1_22.cells
    obtain ⟨kc1_0, kc1_1, kc1_2⟩ := BX8_22.cells
    go_wp2_with fail
    clear kc0_0 kc0_1 kc0_2 kc1_0 kc1_1 kc1_2
    refine (eqIntS_same _ _ (htOut d0 d1) _ _ _ _ _ R22_0.out R6_0_22.out (by omega) (by omega)).mono ?_
    rintro e w23 ⟨rfl, hb23⟩
    have hs23 := hb23.size
    have hbw23 := hbw22.trans (hb23.mono (by omega))
    clear hbw22
    have R6_0_23 := Lib.hid (IntS.below R6_0_22.out hb23 (by omega)); clear R6_0_22
    have R7_23 := Lib.hid (NetX.below R7_22.out hb23 (by omega)); clear R7_22
    have R9_23 := Lib.hid (ISSx.below R9_22.out hb23 (by omega)); clear R9_22
    have R10_0_23 := Lib.hid (IntS.below R10_0_22.out hb23 (by omega)); clear R10_0_22
    have R22_0_23 := Lib.hid (IntS.below R22_0.out hb23 (by omega)); clear R22_0
    have BX1_23 := BX1_22.below hb23 (by omega); clear BX1_22
    have BX8_23 := BX8_22.below hb23 (by omega); clear BX8_22
    obtain ⟨kc0_0, kc0_1, kc0_2⟩ := BX1_23.cells
    obtain ⟨kc1_0, kc1_1, kc1_2⟩ := BX8_23.cells
    go_wp2_with fail
    clear kc0_0 kc0_1 kc0_2 kc1_0 kc1_1 kc1_2
    refine (heldIntS_yes _ (htOut d0 d1) _ _ _ _ R10_0_23.out (by omega) (by omega) (by omega)).mono ?_
    rintro e w24 ⟨rfl, hb24⟩
    have hs24 := hb24.size
    have hbw24 := hbw23.trans (hb24.mono (by omega))
    clear hbw23
    have R6_0_24 := Lib.hid (IntS.below R6_0_23.out hb24 (by omega)); clear R6_0_23
    have R7_24 := Lib.hid (NetX.below R7_23.out hb24 (by omega)); clear R7_23
    have R9_24 := Lib.hid (ISSx.below R9_23.out hb24 (by omega)); clear R9_23
    have R10_0_24 := Lib.hid (IntS.below R10_0_23.out hb24 (by omega)); clear R10_0_23
    have R22_0_24 := Lib.hid (IntS.below R22_0_23.out hb24 (by omega)); clear R22_0_23
    have BX1_24 := BX1_23.below hb24 (by omega); clear BX1_23
    have BX8_24 := BX8_23.below hb24 (by omega); clear BX8_23
    go_wp2_with fail
    go_ret
    exact ⟨rfl, hbw24⟩
end Go.Proofs.Ytjapdfdjgjajkaa.fnExactHeightsOf
