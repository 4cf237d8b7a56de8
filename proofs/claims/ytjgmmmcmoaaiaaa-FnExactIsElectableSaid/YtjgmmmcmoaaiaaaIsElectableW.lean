/-
  For all arguments the program's IsElectable returns what the reference's returns, leaves its arguments as they were, and returns memory of its own. No condition.
-/
import Derived.Test.YtjgmmmcmoaaiaaaEl4
import Derived.Test.YtjgmmmcmoaaiaaaOpenNet
import Derived.Deep.RegionHeld3
namespace Go.Proofs.Ytjgmmmcmoaaiaaa.fnExactIsElectable
open Go.ChangeShapes Go.WideShapes Go.ChangeAt Go.RowKit
set_option linter.unusedVariables false

theorem own : ownKnob Try.prog.godebug = none := by kernel_rfl
theorem laidOut : laidOutB Try.prog = true := by kernel_rfl

set_option maxHeartbeats 8000000 in
set_option maxRecDepth 100000 in
theorem walk (w : World) (v0 : Value) (d0 : NetD) (h0 : Net w 0 w.heap.size v0 d0) (i0 : d0.Ok) :
    Calls Try.prog 3 #[v0] w fun e w' => e = .returned (.bool true) ∧ Below w.heap.size w w' := by
  have H0 := Lib.hid h0
  obtain ⟨A0, c0, A0', c0', A0'', c0'', rfl, _⟩ := h0.parts
  clear h0
  have I0 := Lib.hid i0; clear i0
  have hcnt0 := NetD.cnt_le d0
  by_cases cond0 : d0.sz ≤ 1048576
  case neg =>
    obtain ⟨w1, HW1⟩ : ∃ W, Hid (W = w.alloc (.cells #[.slice A0 d0.ends.length c0, .slice A0' d0.ids.length c0', .slice A0'' d0.inputs.length c0''] 25)) := ⟨_, Lib.hid rfl⟩
    have hb1 : Below w.heap.size w w1 := by rw [HW1.out]; exact below_a1 _ _
    have hz1 : w.heap.size + 1 ≤ w1.heap.size := by rw [HW1.out]; simp
    have hs1 := hb1.size
    have hbw1 := hb1
    have BX1 : Box3 w1 w.heap.size 25 (.slice A0 d0.ends.length c0) (.slice A0' d0.ids.length c0') (.slice A0'' d0.inputs.length c0'') := by rw [HW1.out]; exact Box3.new _ _ _ _ _
    go_enter Try.func3, Try.ntmps3
    obtain ⟨kc0_0, kc0_1, kc0_2⟩ := BX1.cells
    go_wp2_with fail
    rw [← HW1.out]; clear HW1
    clear kc0_0 kc0_1 kc0_2
    refine (szNetwork_no _ d0 _ _ _ _ (Net.below H0.out hbw1 (Nat.le_refl _)) (by omega) (by omega) (by omega) (by omega)).mono ?_
    rintro e w2 ⟨rfl, hb2⟩
    have hs2 := hb2.size
    have hbw2 := hbw1.trans (hb2.mono (by omega))
    clear hbw1
    have BX1_2 := BX1.below hb2 (by omega); clear BX1
    obtain ⟨kc0_0, kc0_1, kc0_2⟩ := BX1_2.cells
    go_wp2_with fail
    clear kc0_0 kc0_1 kc0_2
    go_ret
    exact ⟨rfl, hbw2⟩
  case pos =>
    obtain ⟨w1, HW1⟩ : ∃ W, Hid (W = w.alloc (.cells #[.slice A0 d0.ends.length c0, .slice A0' d0.ids.length c0', .slice A0'' d0.inputs.length c0''] 25)) := ⟨_, Lib.hid rfl⟩
    have hb1 : Below w.heap.size w w1 := by rw [HW1.out]; exact below_a1 _ _
    have hz1 : w.heap.size + 1 ≤ w1.heap.size := by rw [HW1.out]; simp
    have hs1 := hb1.size
    have hbw1 := hb1
    have BX1 : Box3 w1 w.heap.size 25 (.slice A0 d0.ends.length c0) (.slice A0' d0.ids.length c0') (.slice A0'' d0.inputs.length c0'') := by rw [HW1.out]; exact Box3.new _ _ _ _ _
    go_enter Try.func3, Try.ntmps3
    obtain ⟨kc0_0, kc0_1, kc0_2⟩ := BX1.cells
    go_wp2_with fail
    rw [← HW1.out]; clear HW1
    clear kc0_0 kc0_1 kc0_2
    refine (szNetwork_yes _ d0 _ _ _ _ (Net.below H0.out hbw1 (Nat.le_refl _)) (by omega) (by omega) (by omega)).mono ?_
    rintro e w2 ⟨rfl, hb2⟩
    have hs2 := hb2.size
    have hbw2 := hbw1.trans (hb2.mono (by omega))
    clear hbw1
    have BX1_2 := BX1.below hb2 (by omega); clear BX1
    obtain ⟨kc0_0, kc0_1, kc0_2⟩ := BX1_2.cells
    go_wp2_with fail
    clear kc0_0 kc0_1 kc0_2
    refine (toNetwork_any _ d0 _ _ _ (Net.below H0.out hbw2 (Nat.le_refl _)) (by omega) (by omega)).mono ?_
    rintro e w3 ⟨r3, rfl, hr3, hb3⟩
    have hs3 := hb3.size
    have hbw3 := hbw2.trans (hb3.mono (by omega))
    clear hbw2
    have BX1_3 := BX1_2.below hb3 (by omega); clear BX1_2
    have R3 := Lib.hid hr3
    obtain ⟨Ar3, cr3, Ar3', cr3', Ar3'', cr3'', rfl, _⟩ := hr3.net.parts
    clear hr3
    obtain ⟨kc0_0, kc0_1, kc0_2⟩ := BX1_3.cells
    go_wp2_with fail
    clear kc0_0 kc0_1 kc0_2
    refine (IsElectable_spec _ d0 _ _ _ R3.out.net (by omega) (by omega) I0.out).mono ?_
    rintro e w4 ⟨rfl, hb4⟩
    have hs4 := hb4.size
    have hbw4 := hbw3.trans (hb4.mono (by omega))
    clear hbw3
    have R3_4 := Lib.hid (NetX.below R3.out hb4 (by omega)); clear R3
    have BX1_4 := BX1_3.below hb4 (by omega); clear BX1_3
    clear R3_4
    obtain ⟨kc0_0, kc0_1, kc0_2⟩ := BX1_4.cells
    go_wp2_with fail
    clear kc0_0 kc0_1 kc0_2
    refine (toNetwork_any _ d0 _ _ _ (Net.below H0.out hbw4 (Nat.le_refl _)) (by omega) (by omega)).mono ?_
    rintro e w5 ⟨r5, rfl, hr5, hb5⟩
    have hs5 := hb5.size
    have hbw5 := hbw4.trans (hb5.mono (by omega))
    clear hbw4
    have BX1_5 := BX1_4.below hb5 (by omega); clear BX1_4
    have R5 := Lib.hid hr5
    obtain ⟨Ar5, cr5, Ar5', cr5', Ar5'', cr5'', rfl, _⟩ := hr5.net.parts
    clear hr5
    obtain ⟨w6, HW6⟩ : ∃ W, Hid (W = w5.alloc (.cells #[.slice Ar5 d0.ends.length cr5, .slice Ar5' d0.ids.length cr5', .slice Ar5'' d0.inputs.length cr5''] 31)) := ⟨_, Lib.hid rfl⟩
    have hb6 : Below w5.heap.size w5 w6 := by rw [HW6.out]; exact below_a1 _ _
    have hz6 : w5.heap.size + 1 ≤ w6.heap.size := by rw [HW6.out]; simp
    have hs6 := hb6.size
    have hbw6 := hbw5.trans (hb6.mono (by omega))
    clear hbw5
    have R5_6 := Lib.hid (NetX.below R5.out hb6 (by omega)); clear R5
    have BX1_6 := BX1_5.below hb6 (by omega); clear BX1_5
    have BX6 : Box3 w6 w5.heap.size 31 (.slice Ar5 d0.ends.length cr5) (.slice Ar5' d0.ids.length cr5') (.slice Ar5'' d0.inputs.length cr5'') := by rw [HW6.out]; exact Box3.new _ _ _ _ _
    obtain ⟨kc0_0, kc0_1, kc0_2⟩ := BX1_6.cells
    obtain ⟨kc1_0, kc1_1, kc1_2⟩ := BX6.cells
    go_wp2_with fail
    rw [← HW6.out]; clear HW6
    clear kc0_0 kc0_1 kc0_2 kc1_0 kc1_1 kc1_2
    refine (IsElectable_impl _ d0 _ _ _ R5_6.out.net (by omega) (by omega) I0.out).mono ?_
    rintro e w7 ⟨rfl, hb7⟩
    have hs7 := hb7.size
    have hbw7 := hbw6.trans (hb7.mono (by omega))
    clear hbw6
    have R5_7 := Lib.hid (NetX.below R5_6.out hb7 (by omega)); clear R5_6
    have BX1_7 := BX1_6.below hb7 (by omega); clear BX1_6
    have BX6_7 := BX6.below hb7 (by omega); clear BX6
    obtain ⟨kc0_0, kc0_1, kc0_2⟩ := BX1_7.cells
    obtain ⟨kc1_0, kc1_1, kc1_2⟩ := BX6_7.cells
    go_wp2_with fail
    have hq8 : w7.heap.size ≤ w7.heap.size := Nat.le_refl _
    go_region_held3 (fun w' => w'.cell? ⟨w.heap.size, 0, none⟩ = some (.slice A0 d0.ends.length c0) ∧ w'.cell? ⟨w.heap.size, 1, none⟩ = some (.slice A0' d0.ids.length c0') ∧ w'.cell? ⟨w.heap.size, 2, none⟩ = some (.slice A0'' d0.inputs.length c0'') ∧ w'.cell? ⟨w5.heap.size, 0, none⟩ = some (.slice Ar5 d0.ends.length cr5) ∧ w'.cell? ⟨w5.heap.size, 1, none⟩ = some (.slice Ar5' d0.ids.length cr5') ∧ w'.cell? ⟨w5.heap.size, 2, none⟩ = some (.slice Ar5'' d0.inputs.length cr5''))
      (first | exact ⟨kc0_0, kc0_1, kc0_2, kc1_0, kc1_1, kc1_2⟩ | exact ⟨(hb8.cell (p := ⟨w.heap.size, 0, none⟩) (by show w.heap.size < w7.heap.size; omega)).trans kc0_0, (hb8.cell (p := ⟨w.heap.size, 1, none⟩) (by show w.heap.size < w7.heap.size; omega)).trans kc0_1, (hb8.cell (p := ⟨w.heap.size, 2, none⟩) (by show w.heap.size < w7.heap.size; omega)).trans kc0_2, (hb8.cell (p := ⟨w5.heap.size, 0, none⟩) (by show w5.heap.size < w7.heap.size; omega)).trans kc1_0, (hb8.cell (p := ⟨w5.heap.size, 1, none⟩) (by show w5.heap.size < w7.heap.size; omega)).trans kc1_1, (hb8.cell (p := ⟨w5.heap.size, 2, none⟩) (by show w5.heap.size < w7.heap.size; omega)).trans kc1_2⟩ | exact ⟨kq8_0, kq8_1, kq8_2, kq8_3, kq8_4, kq8_5⟩)
      (first | (go_at_call 6; refine (toNetwork_any _ d0 _ _ _ (Net.below H0.out hbw7.drew (Nat.le_refl _)) (by show _ ≤ w7.heap.size; omega) (by omega)).mono ?_; rintro e w8 ⟨r8, rfl, hr8, hbd8⟩; have hb8 : Below w7.heap.size w7 w8 := (Below.refl _ _).drew.trans hbd8; clear hbd8; have R8 := Lib.hid hr8; obtain ⟨Ar8, cr8, Ar8', cr8', Ar8'', cr8'', rfl, _⟩ := hr8.net.parts; clear hr8) | (go_at_call 8; refine (eqNetwork_same _ _ d0 _ _ _ _ _ (Net.below (R5_7.out.net) hb8 (by show _ ≤ w7.heap.size; omega)) (R8.out.net) (by have := hb8.size; show _ ≤ w8.heap.size; exact Nat.le_trans (by show _ ≤ w7.heap.size; omega) this) (Nat.le_refl _)).mono ?_; rintro e wq8 ⟨rfl, hbq8⟩; have kq8_0 := (hbq8.cell (p := ⟨w.heap.size, 0, none⟩) (by have := hb8.size; show w.heap.size < w8.heap.size; exact Nat.lt_of_lt_of_le (by show w.heap.size < w7.heap.size; omega) this)).trans ((hb8.cell (p := ⟨w.heap.size, 0, none⟩) (by show w.heap.size < w7.heap.size; omega)).trans kc0_0); have kq8_1 := (hbq8.cell (p := ⟨w.heap.size, 1, none⟩) (by have := hb8.size; show w.heap.size < w8.heap.size; exact Nat.lt_of_lt_of_le (by show w.heap.size < w7.heap.size; omega) this)).trans ((hb8.cell (p := ⟨w.heap.size, 1, none⟩) (by show w.heap.size < w7.heap.size; omega)).trans kc0_1); have kq8_2 := (hbq8.cell (p := ⟨w.heap.size, 2, none⟩) (by have := hb8.size; show w.heap.size < w8.heap.size; exact Nat.lt_of_lt_of_le (by show w.heap.size < w7.heap.size; omega) this)).trans ((hb8.cell (p := ⟨w.heap.size, 2, none⟩) (by show w.heap.size < w7.heap.size; omega)).trans kc0_2); have kq8_3 := (hbq8.cell (p := ⟨w5.heap.size, 0, none⟩) (by have := hb8.size; show w5.heap.size < w8.heap.size; exact Nat.lt_of_lt_of_le (by show w5.heap.size < w7.heap.size; omega) this)).trans ((hb8.cell (p := ⟨w5.heap.size, 0, none⟩) (by show w5.heap.size < w7.heap.size; omega)).trans kc1_0); have kq8_4 := (hbq8.cell (p := ⟨w5.heap.size, 1, none⟩) (by have := hb8.size; show w5.heap.size < w8.heap.size; exact Nat.lt_of_lt_of_le (by show w5.heap.size < w7.heap.size; omega) this)).trans ((hb8.cell (p := ⟨w5.heap.size, 1, none⟩) (by show w5.heap.size < w7.heap.size; omega)).trans kc1_1); have kq8_5 := (hbq8.cell (p := ⟨w5.heap.size, 2, none⟩) (by have := hb8.size; show w5.heap.size < w8.heap.size; exact Nat.lt_of_lt_of_le (by show w5.heap.size < w7.heap.size; omega) this)).trans ((hb8.cell (p := ⟨w5.heap.size, 2, none⟩) (by show w5.heap.size < w7.heap.size; omega)).trans kc1_2)))
    clear kc0_0 kc0_1 kc0_2 kc1_0 kc1_1 kc1_2 hq8 kq8_0 kq8_1 kq8_2 kq8_3 kq8_4 kq8_5
    clear R8
    have hbz8 : Below w7.heap.size w7 wq8 := Below.trans hb8 (hbq8.mono hb8.size)
    clear hb8 hbq8
    have hs8 := hbz8.size
    have hbw8 := hbw7.trans (hbz8.mono (by omega))
    clear hbw7
    have R5_8 := Lib.hid (NetX.below R5_7.out hbz8 (by omega)); clear R5_7
    have BX1_8 := BX1_7.below hbz8 (by omega); clear BX1_7
    have BX6_8 := BX6_7.below hbz8 (by omega); clear BX6_7
    go_wp2_with fail
    go_ret
    exact ⟨rfl, hbw8⟩
end Go.Proofs.Ytjgmmmcmoaaiaaa.fnExactIsElectable
