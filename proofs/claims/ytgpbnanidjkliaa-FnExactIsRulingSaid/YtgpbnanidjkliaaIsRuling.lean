/-
  For all arguments the program's IsRuling returns what the reference's returns, leaves its arguments as they were, and returns memory of its own. No condition.
-/
import Derived.Test.YtgpbnanidjkliaaRuleJ
import Derived.Test.YtgpbnanidjkliaaOpenNet
import Derived.Deep.RegionHeld3
namespace Go.Proofs.Ytgpbnanidjkliaa.fnExactIsRuling
open Go.ChangeShapes Go.WideShapes Go.ChangeAt Go.RowKit
set_option linter.unusedVariables false

theorem own : ownKnob Try.prog.godebug = none := by kernel_rfl
theorem laidOut : laidOutB Try.prog = true := by kernel_rfl

set_option maxHeartbeats 8000000 in
set_option maxRecDepth 100000 in
theorem walk (w : World) (v0 : Value) (d0 : NetD) (h0 : Net w 0 w.heap.size v0 d0) (i0 : d0.Ok) (v1 : Value) (d1 : List Int) (h1 : IntS w 0 w.heap.size v1 d1) (i1 : ∀ z ∈ d1, I64 z) (x2 : Int) (i2 : I64 x2) (x3 : Int) (i3 : I64 x3) :
    Calls Try.prog 12 #[v0, v1, .int .i64 x2, .int .i64 x3] w fun e w' => e = .returned (.bool true) ∧ Below w.heap.size w w' := by
  have H0 := Lib.hid h0
  obtain ⟨A0, c0, A0', c0', A0'', c0'', rfl, _⟩ := h0.parts
  clear h0
  have I0 := Lib.hid i0; clear i0
  have H1 := Lib.hid h1
  obtain ⟨A1, c1, rfl⟩ := h1.shape
  clear h1
  have I1 := Lib.hid i1; clear i1
  have I2 := Lib.hid i2; clear i2
  have I3 := Lib.hid i3; clear i3
  have hcnt0 := NetD.cnt_le d0
  by_cases cond0 : d1.length ≤ 1048576
  case neg =>
    obtain ⟨w1, HW1⟩ : ∃ W, Hid (W = w.alloc (.cells #[.slice A0 d0.ends.length c0, .slice A0' d0.ids.length c0', .slice A0'' d0.inputs.length c0''] 25)) := ⟨_, Lib.hid rfl⟩
    have hb1 : Below w.heap.size w w1 := by rw [HW1.out]; exact below_a1 _ _
    have hz1 : w.heap.size + 1 ≤ w1.heap.size := by rw [HW1.out]; simp
    have hs1 := hb1.size
    have hbw1 := hb1
    have BX1 : Box3 w1 w.heap.size 25 (.slice A0 d0.ends.length c0) (.slice A0' d0.ids.length c0') (.slice A0'' d0.inputs.length c0'') := by rw [HW1.out]; exact Box3.new _ _ _ _ _
    go_enter Try.func12, Try.ntmps12
    obtain ⟨kc0_0, kc0_1, kc0_2⟩ := BX1.cells
    go_wp2_with fail
    rw [← HW1.out]; clear HW1
    clear kc0_0 kc0_1 kc0_2
    go_ret
    exact ⟨rfl, hbw1⟩
  by_cases cond1 : d0.sz ≤ 1048576
  case neg =>
    obtain ⟨w1, HW1⟩ : ∃ W, Hid (W = w.alloc (.cells #[.slice A0 d0.ends.length c0, .slice A0' d0.ids.length c0', .slice A0'' d0.inputs.length c0''] 25)) := ⟨_, Lib.hid rfl⟩
    have hb1 : Below w.heap.size w w1 := by rw [HW1.out]; exact below_a1 _ _
    have hz1 : w.heap.size + 1 ≤ w1.heap.size := by rw [HW1.out]; simp
    have hs1 := hb1.size
    have hbw1 := hb1
    have BX1 : Box3 w1 w.heap.size 25 (.slice A0 d0.ends.length c0) (.slice A0' d0.ids.length c0') (.slice A0'' d0.inputs.length c0'') := by rw [HW1.out]; exact Box3.new _ _ _ _ _
    go_enter Try.func12, Try.ntmps12
    obtain ⟨kc0_0, kc0_1, kc0_2⟩ := BX1.cells
    go_wp2_with fail
    rw [← HW1.out]; clear HW1
    clear kc0_0 kc0_1 kc0_2
    refine (szNetwork_no _ d0 _ _ _ _ (Net.below H0.out hbw1 (Nat.le_refl _)) (by omega) (by omega) (by omega) (by omega)).mono ?_
    rintro e w2 ⟨rfl, hb2⟩
    have hs2 := hb2.size
    have hbw2 := hbw1.trans (hb2.mono (by omega))
    clear hbw1
    have BX1_2 := BX1.below hb2 (by omega); clear BX1
    obtain ⟨kc0_0, kc0_1, kc0_2⟩ := BX1_2.cells
    go_wp2_with fail
    clear kc0_0 kc0_1 kc0_2
    go_ret
    exact ⟨rfl, hbw2⟩
  case pos =>
    obtain ⟨w1, HW1⟩ : ∃ W, Hid (W = w.alloc (.cells #[.slice A0 d0.ends.length c0, .slice A0' d0.ids.length c0', .slice A0'' d0.inputs.length c0''] 25)) := ⟨_, Lib.hid rfl⟩
    have hb1 : Below w.heap.size w w1 := by rw [HW1.out]; exact below_a1 _ _
    have hz1 : w.heap.size + 1 ≤ w1.heap.size := by rw [HW1.out]; simp
    have hs1 := hb1.size
    have hbw1 := hb1
    have BX1 : Box3 w1 w.heap.size 25 (.slice A0 d0.ends.length c0) (.slice A0' d0.ids.length c0') (.slice A0'' d0.inputs.length c0'') := by rw [HW1.out]; exact Box3.new _ _ _ _ _
    go_enter Try.func12, Try.ntmps12
    obtain ⟨kc0_0, kc0_1, kc0_2⟩ := BX1.cells
    go_wp2_with fail
    rw [← HW1.out]; clear HW1
    clear kc0_0 kc0_1 kc0_2
    refine (szNetwork_yes _ d0 _ _ _ _ (Net.below H0.out hbw1 (Nat.le_refl _)) (by omega) (by omega) (by omega)).mono ?_
    rintro e w2 ⟨rfl, hb2⟩
    have hs2 := hb2.size
    have hbw2 := hbw1.trans (hb2.mono (by omega))
    clear hbw1
    have BX1_2 := BX1.below hb2 (by omega); clear BX1
    obtain ⟨kc0_0, kc0_1, kc0_2⟩ := BX1_2.cells
    go_wp2_with fail
    clear kc0_0 kc0_1 kc0_2
    refine (toNetwork_any _ d0 _ _ _ (Net.below H0.out hbw2 (Nat.le_refl _)) (by omega) (by omega)).mono ?_
    rintro e w3 ⟨r3, rfl, hr3, hb3⟩
    have hs3 := hb3.size
    have hbw3 := hbw2.trans (hb3.mono (by omega))
    clear hbw2
    have BX1_3 := BX1_2.below hb3 (by omega); clear BX1_2
    have R3 := Lib.hid hr3
    obtain ⟨Ar3, cr3, Ar3', cr3', Ar3'', cr3'', rfl, _⟩ := hr3.net.parts
    clear hr3
    obtain ⟨kc0_0, kc0_1, kc0_2⟩ := BX1_3.cells
    go_wp2_with fail
    clear kc0_0 kc0_1 kc0_2
    refine (toIntS_any _ d1 _ _ _ (IntS.below H1.out hbw3 (Nat.le_refl _)) (by omega) (by omega)).mono ?_
    rintro e w4 ⟨r4, rfl, hr4, hb4⟩
    have hs4 := hb4.size
    have hbw4 := hbw3.trans (hb4.mono (by omega))
    clear hbw3
    have R3_4 := Lib.hid (NetX.below R3.out hb4 (by omega)); clear R3
    have BX1_4 := BX1_3.below hb4 (by omega); clear BX1_3
    have R4 := Lib.hid hr4
    obtain ⟨Ar4, cr4, rfl⟩ := hr4.shape
    clear hr4
    obtain ⟨kc0_0, kc0_1, kc0_2⟩ := BX1_4.cells
    go_wp2_with fail
    clear kc0_0 kc0_1 kc0_2
    refine (IsRuling_spec _ d0 _ _ _ d1 _ _ x2 x3 _ R3_4.out.net (by omega) R4.out (by omega) (by omega) (by omega) I0.out I1.out I2.out I3.out).mono ?_
    rintro e w5 ⟨rfl, hb5⟩
    have hs5 := hb5.size
    have hbw5 := hbw4.trans (hb5.mono (by omega))
    clear hbw4
    have R3_5 := Lib.hid (NetX.below R3_4.out hb5 (by omega)); clear R3_4
    have R4_5 := Lib.hid (IntS.below R4.out hb5 (by omega)); clear R4
    have BX1_5 := BX1_4.below hb5 (by omega); clear BX1_4
    clear R3_5
    clear R4_5
    obtain ⟨kc0_0, kc0_1, kc0_2⟩ := BX1_5.cells
    go_wp2_with fail
    clear kc0_0 kc0_1 kc0_2
    refine (toNetwork_any _ d0 _ _ _ (Net.below H0.out hbw5 (Nat.le_refl _)) (by omega) (by omega)).mono ?_
    rintro e w6 ⟨r6, rfl, hr6, hb6⟩
    have hs6 := hb6.size
    have hbw6 := hbw5.trans (hb6.mono (by omega))
    clear hbw5
    have BX1_6 := BX1_5.below hb6 (by omega); clear BX1_5
    have R6 := Lib.hid hr6
    obtain ⟨Ar6, cr6, Ar6', cr6', Ar6'', cr6'', rfl, _⟩ := hr6.net.parts
    clear hr6
    obtain ⟨w7, HW7⟩ : ∃ W, Hid (W = w6.alloc (.cells #[.slice Ar6 d0.ends.length cr6, .slice Ar6' d0.ids.length cr6', .slice Ar6'' d0.inputs.length cr6''] 31)) := ⟨_, Lib.hid rfl⟩
    have hb7 : Below w6.heap.size w6 w7 := by rw [HW7.out]; exact below_a1 _ _
    have hz7 : w6.heap.size + 1 ≤ w7.heap.size := by rw [HW7.out]; simp
    have hs7 := hb7.size
    have hbw7 := hbw6.trans (hb7.mono (by omega))
    clear hbw6
    have R6_7 := Lib.hid (NetX.below R6.out hb7 (by omega)); clear R6
    have BX1_7 := BX1_6.below hb7 (by omega); clear BX1_6
    have BX7 : Box3 w7 w6.heap.size 31 (.slice Ar6 d0.ends.length cr6) (.slice Ar6' d0.ids.length cr6') (.slice Ar6'' d0.inputs.length cr6'') := by rw [HW7.out]; exact Box3.new _ _ _ _ _
    obtain ⟨kc0_0, kc0_1, kc0_2⟩ := BX1_7.cells
    obtain ⟨kc1_0, kc1_1, kc1_2⟩ := BX7.cells
    go_wp2_with fail
    rw [← HW7.out]; clear HW7
    clear kc0_0 kc0_1 kc0_2 kc1_0 kc1_1 kc1_2
    refine (toIntS_any _ d1 _ _ _ (IntS.below H1.out hbw7 (Nat.le_refl _)) (by omega) (by omega)).mono ?_
    rintro e w8 ⟨r8, rfl, hr8, hb8⟩
    have hs8 := hb8.size
    have hbw8 := hbw7.trans (hb8.mono (by omega))
    clear hbw7
    have R6_8 := Lib.hid (NetX.below R6_7.out hb8 (by omega)); clear R6_7
    have BX1_8 := BX1_7.below hb8 (by omega); clear BX1_7
    have BX7_8 := BX7.below hb8 (by omega); clear BX7
    have R8 := Lib.hid hr8
    obtain ⟨Ar8, cr8, rfl⟩ := hr8.shape
    clear hr8
    obtain ⟨kc0_0, kc0_1, kc0_2⟩ := BX1_8.cells
    obtain ⟨kc1_0, kc1_1, kc1_2⟩ := BX7_8.cells
    go_wp2_with fail
    clear kc0_0 kc0_1 kc0_2 kc1_0 kc1_1 kc1_2
    refine (IsRuling_impl _ d0 _ _ _ d1 _ _ x2 x3 _ R6_8.out.net (by omega) R8.out (by omega) (by omega) (by omega) I0.out I1.out I2.out I3.out).mono ?_
    rintro e w9 ⟨rfl, hb9⟩
    have hs9 := hb9.size
    have hbw9 := hbw8.trans (hb9.mono (by omega))
    clear hbw8
    have R6_9 := Lib.hid (NetX.below R6_8.out hb9 (by omega)); clear R6_8
    have R8_9 := Lib.hid (IntS.below R8.out hb9 (by omega)); clear R8
    have BX1_9 := BX1_8.below hb9 (by omega); clear BX1_8
    have BX7_9 := BX7_8.below hb9 (by omega); clear BX7_8
    obtain ⟨kc0_0, kc0_1, kc0_2⟩ := BX1_9.cells
    obtain ⟨kc1_0, kc1_1, kc1_2⟩ := BX7_9.cells
    go_wp2_with fail
    have hq10 : w9.heap.size ≤ w9.heap.size := Nat.le_refl _
    go_region_held3 (fun w' => w'.cell? ⟨w.heap.size, 0, none⟩ = some (.slice A0 d0.ends.length c0) ∧ w'.cell? ⟨w.heap.size, 1, none⟩ = some (.slice A0' d0.ids.length c0') ∧ w'.cell? ⟨w.heap.size, 2, none⟩ = some (.slice A0'' d0.inputs.length c0'') ∧ w'.cell? ⟨w6.heap.size, 0, none⟩ = some (.slice Ar6 d0.ends.length cr6) ∧ w'.cell? ⟨w6.heap.size, 1, none⟩ = some (.slice Ar6' d0.ids.length cr6') ∧ w'.cell? ⟨w6.heap.size, 2, none⟩ = some (.slice Ar6'' d0.inputs.length cr6''))
      (first | exact ⟨kc0_0, kc0_1, kc0_2, kc1_0, kc1_1, kc1_2⟩ | exact ⟨(hb10.cell (p := ⟨w.heap.size, 0, none⟩) (by show w.heap.size < w9.heap.size; omega)).trans kc0_0, (hb10.cell (p := ⟨w.heap.size, 1, none⟩) (by show w.heap.size < w9.heap.size; omega)).trans kc0_1, (hb10.cell (p := ⟨w.heap.size, 2, none⟩) (by show w.heap.size < w9.heap.size; omega)).trans kc0_2, (hb10.cell (p := ⟨w6.heap.size, 0, none⟩) (by show w6.heap.size < w9.heap.size; omega)).trans kc1_0, (hb10.cell (p := ⟨w6.heap.size, 1, none⟩) (by show w6.heap.size < w9.heap.size; omega)).trans kc1_1, (hb10.cell (p := ⟨w6.heap.size, 2, none⟩) (by show w6.heap.size < w9.heap.size; omega)).trans kc1_2⟩ | exact ⟨kq10_0, kq10_1, kq10_2, kq10_3, kq10_4, kq10_5⟩)
      (first | (go_at_call 17; refine (toNetwork_any _ d0 _ _ _ (Net.below H0.out hbw9.drew (Nat.le_refl _)) (by show _ ≤ w9.heap.size; omega) (by omega)).mono ?_; rintro e w10 ⟨r10, rfl, hr10, hbd10⟩; have hb10 : Below w9.heap.size w9 w10 := (Below.refl _ _).drew.trans hbd10; clear hbd10; have R10 := Lib.hid hr10; obtain ⟨Ar10, cr10, Ar10', cr10', Ar10'', cr10'', rfl, _⟩ := hr10.net.parts; clear hr10) | (go_at_call 20; refine (eqNetwork_same _ _ d0 _ _ _ _ _ (Net.below (R6_9.out.net) hb10 (by show _ ≤ w9.heap.size; omega)) (R10.out.net) (by have := hb10.size; show _ ≤ w10.heap.size; exact Nat.le_trans (by show _ ≤ w9.heap.size; omega) this) (Nat.le_refl _)).mono ?_; rintro e wq10 ⟨rfl, hbq10⟩; have kq10_0 := (hbq10.cell (p := ⟨w.heap.size, 0, none⟩) (by have := hb10.size; show w.heap.size < w10.heap.size; exact Nat.lt_of_lt_of_le (by show w.heap.size < w9.heap.size; omega) this)).trans ((hb10.cell (p := ⟨w.heap.size, 0, none⟩) (by show w.heap.size < w9.heap.size; omega)).trans kc0_0); have kq10_1 := (hbq10.cell (p := ⟨w.heap.size, 1, none⟩) (by have := hb10.size; show w.heap.size < w10.heap.size; exact Nat.lt_of_lt_of_le (by show w.heap.size < w9.heap.size; omega) this)).trans ((hb10.cell (p := ⟨w.heap.size, 1, none⟩) (by show w.heap.size < w9.heap.size; omega)).trans kc0_1); have kq10_2 := (hbq10.cell (p := ⟨w.heap.size, 2, none⟩) (by have := hb10.size; show w.heap.size < w10.heap.size; exact Nat.lt_of_lt_of_le (by show w.heap.size < w9.heap.size; omega) this)).trans ((hb10.cell (p := ⟨w.heap.size, 2, none⟩) (by show w.heap.size < w9.heap.size; omega)).trans kc0_2); have kq10_3 := (hbq10.cell (p := ⟨w6.heap.size, 0, none⟩) (by have := hb10.size; show w6.heap.size < w10.heap.size; exact Nat.lt_of_lt_of_le (by show w6.heap.size < w9.heap.size; omega) this)).trans ((hb10.cell (p := ⟨w6.heap.size, 0, none⟩) (by show w6.heap.size < w9.heap.size; omega)).trans kc1_0); have kq10_4 := (hbq10.cell (p := ⟨w6.heap.size, 1, none⟩) (by have := hb10.size; show w6.heap.size < w10.heap.size; exact Nat.lt_of_lt_of_le (by show w6.heap.size < w9.heap.size; omega) this)).trans ((hb10.cell (p := ⟨w6.heap.size, 1, none⟩) (by show w6.heap.size < w9.heap.size; omega)).trans kc1_1); have kq10_5 := (hbq10.cell (p := ⟨w6.heap.size, 2, none⟩) (by have := hb10.size; show w6.heap.size < w10.heap.size; exact Nat.lt_of_lt_of_le (by show w6.heap.size < w9.heap.size; omega) this)).trans ((hb10.cell (p := ⟨w6.heap.size, 2, none⟩) (by show w6.heap.size < w9.heap.size; omega)).trans kc1_2)))
    clear kc0_0 kc0_1 kc0_2 kc1_0 kc1_1 kc1_2 hq10 kq10_0 kq10_1 kq10_2 kq10_3 kq10_4 kq10_5
    clear R10
    have hbz10 : Below w9.heap.size w9 wq10 := Below.trans hb10 (hbq10.mono hb10.size)
    clear hb10 hbq10
    have hs10 := hbz10.size
    have hbw10 := hbw9.trans (hbz10.mono (by omega))
    clear hbw9
    have R6_10 := Lib.hid (NetX.below R6_9.out hbz10 (by omega)); clear R6_9
    have R8_10 := Lib.hid (IntS.below R8_9.out hbz10 (by omega)); clear R8_9
    have BX1_10 := BX1_9.below hbz10 (by omega); clear BX1_9
    have BX7_10 := BX7_9.below hbz10 (by omega); clear BX7_9
    obtain ⟨kc0_0, kc0_1, kc0_2⟩ := BX1_10.cells
    obtain ⟨kc1_0, kc1_1, kc1_2⟩ := BX7_10.cells
    go_wp2_with fail
    clear kc0_0 kc0_1 kc0_2 kc1_0 kc1_1 kc1_2
    refine (toIntS_any _ d1 _ _ _ (IntS.below H1.out hbw10 (Nat.le_refl _)) (by omega) (by omega)).mono ?_
    rintro e w11 ⟨r11, rfl, hr11, hb11⟩
    have hs11 := hb11.size
    have hbw11 := hbw10.trans (hb11.mono (by omega))
    clear hbw10
    have R6_11 := Lib.hid (NetX.below R6_10.out hb11 (by omega)); clear R6_10
    have R8_11 := Lib.hid (IntS.below R8_10.out hb11 (by omega)); clear R8_10
    have BX1_11 := BX1_10.below hb11 (by omega); clear BX1_10
    have BX7_11 := BX7_10.below hb11 (by omega); clear BX7_10
    have R11 := Lib.hid hr11
    obtain ⟨Ar11, cr11, rfl⟩ := hr11.shape
    clear hr11
    obtain ⟨kc0_0, kc0_1, kc0_2⟩ := BX1_11.cells
    obtain ⟨kc1_0, kc1_1, kc1_2⟩ := BX7_11.cells
    go_wp2_with fail
    clear kc0_0 kc0_1 kc0_2 kc1_0 kc1_1 kc1_2
    refine (eqIntS_same _ _ d1 _ _ _ _ _ R8_11.out R11.out (by omega) (by omega)).mono ?_
    rintro e w12 ⟨rfl, hb12⟩
    have hs12 := hb12.size
    have hbw12 := hbw11.trans (hb12.mono (by omega))
    clear hbw11
    have R6_12 := Lib.hid (NetX.below R6_11.out hb12 (by omega)); clear R6_11
    have R8_12 := Lib.hid (IntS.below R8_11.out hb12 (by omega)); clear R8_11
    have R11_12 := Lib.hid (IntS.below R11.out hb12 (by omega)); clear R11
    have BX1_12 := BX1_11.below hb12 (by omega); clear BX1_11
    have BX7_12 := BX7_11.below hb12 (by omega); clear BX7_11
    clear R11_12
    go_wp2_with fail
    go_ret
    exact ⟨rfl, hbw12⟩

set_option maxRecDepth 100000 in
theorem lifted (os : Os) (started : os.Started) (H : Type) (enc : TypeId × Value → H) :
    ReturnsInHanded {} Try.checked os 12 .any (Rows.fnExactIsRulingSpec.pre6 enc Try.prog Try.f12 Rows.fnExactIsRulingRow.domain false) (Rows.fnExactIsRulingSpec.post enc Try.prog Try.f12 false true false false) := by
  refine returnsInHanded_of_change (C := Try.checked) own started (by kernel_rfl) Try.func12
    (ChangeSpec.witness6 (enc := enc) (C := Try.checked) false ⟨#[], #[.agg #[.slice none 0 0, .slice none 0 0, .slice none 0 0], .slice none 0 0, .int .i64 0, .int .i64 0], []⟩ 8 (by kernel_rfl) (by kernel_rfl) (by kernel_rfl) (by kernel_rfl)) ?_
  intro W base args ds gs before hval0 hW hcnd _
  have hval : ∀ (j : Nat) t v, Try.f12.params[j]? = some t → args[j]? = some v → Value.okWide Try.prog W .any base t v := hval0
  have hW' := hW
  obtain ⟨p, q, hA0, hV, rfl, hfz, hnd⟩ := hW
  have hA : DataW.TrodAll enc Try.prog W 0 (fun _ => true) true Try.f12.params.toList args.toList ds p := hA0
  rw [Try.params12] at hA hval
  obtain ⟨v0, vs0, d0, ds0, p0, q0, hargs, rfl, rfl, h0, r0⟩ := trodAll_cons hA
  obtain ⟨v1, vs1, d1, ds1, p1, q1, rfl, rfl, rfl, h1, r1⟩ := trodAll_cons r0
  obtain ⟨v2, vs2, d2, ds2, p2, q2, rfl, rfl, rfl, h2, r2⟩ := trodAll_cons r1
  obtain ⟨v3, vs3, d3, ds3, p3, q3, rfl, rfl, rfl, h3, r3⟩ := trodAll_cons r2
  obtain ⟨rfl, rfl, rfl⟩ := trodAll_nil r3
  obtain rfl : args = #[v0, v1, v2, v3] := by cases args; simp_all
  obtain ⟨rfl, rfl⟩ := trodVars_none hV
  have k0 := h0
  have lt0 : ∀ x ∈ p0, x.block < W.heap.size := by obtain ⟨m, hm⟩ := k0; exact DataW.trod_lt m _ _ _ hm
  have fz0 : W.noneFrozen p0 := fun b off hb => hfz b off (by simp [hb])
  obtain ⟨z0, zh0, zi0⟩ := open_Net (hval 0 25 v0 rfl rfl) h0 fz0
  have k1 := h1
  have lt1 : ∀ x ∈ p1, x.block < W.heap.size := by obtain ⟨m, hm⟩ := k1; exact DataW.trod_lt m _ _ _ hm
  have fz1 : W.noneFrozen p1 := fun b off hb => hfz b off (by simp [hb])
  obtain ⟨z1, zh1, zi1⟩ := open_IntS Try.underlying23 Try.underlying3 (by kernel_rfl) (hval 1 23 v1 rfl rfl) h1 fz1
  obtain ⟨x2, rfl, rfl, rfl, wf2⟩ := open_int Try.underlying3 (hval 2 3 v2 rfl rfl) h2
  obtain ⟨x3, rfl, rfl, rfl, wf3⟩ := open_int Try.underlying3 (hval 3 3 v3 rfl rfl) h3
  clear hA0 hval0
  refine (walk W v0 z0 zh0 zi0 v1 z1 zh1 zi1 x2 (I64.of_wf wf2) x3 (I64.of_wf wf3)).mono fun e W' ⟨he, bel⟩ => ?_
  subst he
  exact ⟨_, rfl, _, _, _, [], _, [], hW', trodAll_mk1 (shut_bool Try.underlying4 _), (trodAll_cons_mk (Below.trod laidOut (by kernel_rfl) (of_decide_eq_true (by kernel_rfl)) k0 bel lt0) (trodAll_cons_mk (Below.trod laidOut (by kernel_rfl) (of_decide_eq_true (by kernel_rfl)) k1 bel lt1) (trodAll_cons_mk (shut_int Try.underlying3 wf2) (trodAll_cons_mk (shut_int Try.underlying3 wf3) trodAll_mk0)))), rfl, bel.frame _, fun h => by cases h⟩

theorem over : Rows.fnExactIsRulingRow.holds Try.pinned (OpenSpec.ofChange Rows.fnExactIsRulingSpec) :=
  OpenClaim.holds_of_wide 12 Try.f12 rfl rfl rfl rfl rfl rfl rfl ⟨rfl, rfl, rfl, rfl, rfl⟩ rfl rfl rfl rfl rfl (by kernel_rfl) Try.func12 (by kernel_rfl)
    (of_decide_eq_true (by kernel_rfl)) (by unfold Func.isWrapper; first | (rw [if_pos (by decide +kernel)]; kernel_rfl) | (rw [if_neg (by decide +kernel)]; exact ⟨rfl, rfl⟩))
    (fun os started H enc _ => lifted os started H enc)

theorem proved : Rows.FnExactIsRulingSaid := over
end Go.Proofs.Ytgpbnanidjkliaa.fnExactIsRuling
