/-
  For all arguments the program's StrongDiameter returns what the reference's returns, leaves its arguments as they were, and returns memory of its own. No condition.
-/
import Derived.Test.YtcmmklcampmkjaaStrB
import Derived.Test.YtcmmklcampmkjaaDecLaw
import Derived.Test.YtcmmklcampmkjaaOpenNet
import Derived.Deep.RegionHeld3
namespace Go.Proofs.Ytcmmklcampmkjaa.fnExactStrongDiameter
open Go.ChangeShapes Go.WideShapes Go.ChangeAt Go.RowKit
set_option linter.unusedVariables false

theorem own : ownKnob Try.prog.godebug = none := by kernel_rfl
theorem laidOut : laidOutB Try.prog = true := by kernel_rfl

set_option maxHeartbeats 8000000 in
set_option maxRecDepth 100000 in
theorem walk (w : World) (v0 : Value) (d0 : NetD) (h0 : Net w 0 w.heap.size v0 d0) (i0 : d0.Ok) (v1 : Value) (d1 : DecD) (h1 : Dec w 0 w.heap.size v1 d1) (i1 : d1.Ok) :
    Calls Try.prog 3 #[v0, v1] w fun e w' => e = .returned (.bool true) ∧ Below w.heap.size w w' := by
  have H0 := Lib.hid h0
  obtain ⟨A0, c0, A0', c0', A0'', c0'', rfl, _⟩ := h0.parts
  clear h0
  have I0 := Lib.hid i0; clear i0
  have H1 := Lib.hid h1
  obtain ⟨A1, c1, A1', c1', rfl, _⟩ := h1.parts
  clear h1
  have I1 := Lib.hid i1; clear i1
  have hcnt0 := NetD.cnt_le d0
  have hcnt1 := DecD.cnt_le d1
  by_cases cond0 : d0.sz ≤ 1048576
  case neg =>
    obtain ⟨w1, HW1⟩ : ∃ W, Hid (W = w.alloc (.cells #[.slice A0 d0.ends.length c0, .slice A0' d0.ids.length c0', .slice A0'' d0.inputs.length c0''] 25)) := ⟨_, Lib.hid rfl⟩
    have hb1 : Below w.heap.size w w1 := by rw [HW1.out]; exact below_a1 _ _
    have hz1 : w.heap.size + 1 ≤ w1.heap.size := by rw [HW1.out]; simp
    have hs1 := hb1.size
    have hbw1 := hb1
    have BX1 : Box3 w1 w.heap.size 25 (.slice A0 d0.ends.length c0) (.slice A0' d0.ids.length c0') (.slice A0'' d0.inputs.length c0'') := by rw [HW1.out]; exact Box3.new _ _ _ _ _
    obtain ⟨w2, HW2⟩ : ∃ W, Hid (W = w1.alloc (.cells #[.slice A1 d1.cluster.length c1, .slice A1' d1.colour.length c1'] 27)) := ⟨_, Lib.hid rfl⟩
    have hb2 : Below w1.heap.size w1 w2 := by rw [HW2.out]; exact below_a1 _ _
    have hz2 : w1.heap.size + 1 ≤ w2.heap.size := by rw [HW2.out]; simp
    have hs2 := hb2.size
    have hbw2 := hbw1.trans (hb2.mono (by omega))
    clear hbw1
    have BX1_2 := BX1.below hb2 (by omega); clear BX1
    have hzz2 : w1.heap.size = w.heap.size + 1 := by rw [HW1.out]; simp
    have BX2 : Box2 w2 (w.heap.size + 1) 27 (.slice A1 d1.cluster.length c1) (.slice A1' d1.colour.length c1') := by rw [← hzz2, HW2.out]; exact Box2.new _ _ _ _
    have hzy2 : w.heap.size + 1 < w2.heap.size := by omega
    clear hzz2
    go_enter Try.func3, Try.ntmps3
    obtain ⟨kc0_0, kc0_1, kc0_2⟩ := BX1_2.cells
    obtain ⟨kc1_0, kc1_1⟩ := BX2.cells
    go_wp2_with fail
    rw [← HW1.out]; clear HW1
    rw [← HW2.out]; clear HW2
    clear kc0_0 kc0_1 kc0_2 kc1_0 kc1_1
    refine (szNetwork_no _ d0 _ _ _ _ (Net.below H0.out hbw2 (Nat.le_refl _)) (by omega) (by omega) (by omega) (by omega)).mono ?_
    rintro e w3 ⟨rfl, hb3⟩
    have hs3 := hb3.size
    have hbw3 := hbw2.trans (hb3.mono (by omega))
    clear hbw2
    have BX1_3 := BX1_2.below hb3 (by omega); clear BX1_2
    have BX2_3 := BX2.below hb3 (by omega); clear BX2
    obtain ⟨kc0_0, kc0_1, kc0_2⟩ := BX1_3.cells
    obtain ⟨kc1_0, kc1_1⟩ := BX2_3.cells
    go_wp2_with fail
    clear kc0_0 kc0_1 kc0_2 kc1_0 kc1_1
    go_ret
    exact ⟨rfl, hbw3⟩
  by_cases cond1 : d0.sz + d1.sz ≤ 1048576
  case neg =>
    obtain ⟨w1, HW1⟩ : ∃ W, Hid (W = w.alloc (.cells #[.slice A0 d0.ends.length c0, .slice A0' d0.ids.length c0', .slice A0'' d0.inputs.length c0''] 25)) := ⟨_, Lib.hid rfl⟩
    have hb1 : Below w.heap.size w w1 := by rw [HW1.out]; exact below_a1 _ _
    have hz1 : w.heap.size + 1 ≤ w1.heap.size := by rw [HW1.out]; simp
    have hs1 := hb1.size
    have hbw1 := hb1
    have BX1 : Box3 w1 w.heap.size 25 (.slice A0 d0.ends.length c0) (.slice A0' d0.ids.length c0') (.slice A0'' d0.inputs.length c0'') := by rw [HW1.out]; exact Box3.new _ _ _ _ _
    obtain ⟨w2, HW2⟩ : ∃ W, Hid (W = w1.alloc (.cells #[.slice A1 d1.cluster.length c1, .slice A1' d1.colour.length c1'] 27)) := ⟨_, Lib.hid rfl⟩
    have hb2 : Below w1.heap.size w1 w2 := by rw [HW2.out]; exact below_a1 _ _
    have hz2 : w1.heap.size + 1 ≤ w2.heap.size := by rw [HW2.out]; simp
    have hs2 := hb2.size
    have hbw2 := hbw1.trans (hb2.mono (by omega))
    clear hbw1
    have BX1_2 := BX1.below hb2 (by omega); clear BX1
    have hzz2 : w1.heap.size = w.heap.size + 1 := by rw [HW1.out]; simp
    have BX2 : Box2 w2 (w.heap.size + 1) 27 (.slice A1 d1.cluster.length c1) (.slice A1' d1.colour.length c1') := by rw [← hzz2, HW2.out]; exact Box2.new _ _ _ _
    have hzy2 : w.heap.size + 1 < w2.heap.size := by omega
    clear hzz2
    go_enter Try.func3, Try.ntmps3
    obtain ⟨kc0_0, kc0_1, kc0_2⟩ := BX1_2.cells
    obtain ⟨kc1_0, kc1_1⟩ := BX2.cells
    go_wp2_with fail
    rw [← HW1.out]; clear HW1
    rw [← HW2.out]; clear HW2
    clear kc0_0 kc0_1 kc0_2 kc1_0 kc1_1
    refine (szNetwork_yes _ d0 _ _ _ _ (Net.below H0.out hbw2 (Nat.le_refl _)) (by omega) (by omega) (by omega)).mono ?_
    rintro e w3 ⟨rfl, hb3⟩
    have hs3 := hb3.size
    have hbw3 := hbw2.trans (hb3.mono (by omega))
    clear hbw2
    have BX1_3 := BX1_2.below hb3 (by omega); clear BX1_2
    have BX2_3 := BX2.below hb3 (by omega); clear BX2
    obtain ⟨kc0_0, kc0_1, kc0_2⟩ := BX1_3.cells
    obtain ⟨kc1_0, kc1_1⟩ := BX2_3.cells
    go_wp2_with fail
    clear kc0_0 kc0_1 kc0_2 kc1_0 kc1_1
    refine (szDecomposition_no _ d1 _ _ _ _ (Dec.below H1.out hbw3 (Nat.le_refl _)) (by omega) (by omega) (by omega) (by omega)).mono ?_
    rintro e w4 ⟨rfl, hb4⟩
    have hs4 := hb4.size
    have hbw4 := hbw3.trans (hb4.mono (by omega))
    clear hbw3
    have BX1_4 := BX1_3.below hb4 (by omega); clear BX1_3
    have BX2_4 := BX2_3.below hb4 (by omega); clear BX2_3
    obtain ⟨kc0_0, kc0_1, kc0_2⟩ := BX1_4.cells
    obtain ⟨kc1_0, kc1_1⟩ := BX2_4.cells
    go_wp2_with fail
    clear kc0_0 kc0_1 kc0_2 kc1_0 kc1_1
    go_ret
    exact ⟨rfl, hbw4⟩
  case pos =>
    obtain ⟨w1, HW1⟩ : ∃ W, Hid (W = w.alloc (.cells #[.slice A0 d0.ends.length c0, .slice A0' d0.ids.length c0', .slice A0'' d0.inputs.length c0''] 25)) := ⟨_, Lib.hid rfl⟩
    have hb1 : Below w.heap.size w w1 := by rw [HW1.out]; exact below_a1 _ _
    have hz1 : w.heap.size + 1 ≤ w1.heap.size := by rw [HW1.out]; simp
    have hs1 := hb1.size
    have hbw1 := hb1
    have BX1 : Box3 w1 w.heap.size 25 (.slice A0 d0.ends.length c0) (.slice A0' d0.ids.length c0') (.slice A0'' d0.inputs.length c0'') := by rw [HW1.out]; exact Box3.new _ _ _ _ _
    obtain ⟨w2, HW2⟩ : ∃ W, Hid (W = w1.alloc (.cells #[.slice A1 d1.cluster.length c1, .slice A1' d1.colour.length c1'] 27)) := ⟨_, Lib.hid rfl⟩
    have hb2 : Below w1.heap.size w1 w2 := by rw [HW2.out]; exact below_a1 _ _
    have hz2 : w1.heap.size + 1 ≤ w2.heap.size := by rw [HW2.out]; simp
    have hs2 := hb2.size
    have hbw2 := hbw1.trans (hb2.mono (by omega))
    clear hbw1
    have BX1_2 := BX1.below hb2 (by omega); clear BX1
    have hzz2 : w1.heap.size = w.heap.size + 1 := by rw [HW1.out]; simp
    have BX2 : Box2 w2 (w.heap.size + 1) 27 (.slice A1 d1.cluster.length c1) (.slice A1' d1.colour.length c1') := by rw [← hzz2, HW2.out]; exact Box2.new _ _ _ _
    have hzy2 : w.heap.size + 1 < w2.heap.size := by omega
    clear hzz2
    go_enter Try.func3, Try.ntmps3
    obtain ⟨kc0_0, kc0_1, kc0_2⟩ := BX1_2.cells
    obtain ⟨kc1_0, kc1_1⟩ := BX2.cells
    go_wp2_with fail
    rw [← HW1.out]; clear HW1
    rw [← HW2.out]; clear HW2
    clear kc0_0 kc0_1 kc0_2 kc1_0 kc1_1
    refine (szNetwork_yes _ d0 _ _ _ _ (Net.below H0.out hbw2 (Nat.le_refl _)) (by omega) (by omega) (by omega)).mono ?_
    rintro e w3 ⟨rfl, hb3⟩
    have hs3 := hb3.size
    have hbw3 := hbw2.trans (hb3.mono (by omega))
    clear hbw2
    have BX1_3 := BX1_2.below hb3 (by omega); clear BX1_2
    have BX2_3 := BX2.below hb3 (by omega); clear BX2
    obtain ⟨kc0_0, kc0_1, kc0_2⟩ := BX1_3.cells
    obtain ⟨kc1_0, kc1_1⟩ := BX2_3.cells
    go_wp2_with fail
    clear kc0_0 kc0_1 kc0_2 kc1_0 kc1_1
    refine (szDecomposition_yes _ d1 _ _ _ _ (Dec.below H1.out hbw3 (Nat.le_refl _)) (by omega) (by omega) (by omega)).mono ?_
    rintro e w4 ⟨rfl, hb4⟩
    have hs4 := hb4.size
    have hbw4 := hbw3.trans (hb4.mono (by omega))
    clear hbw3
    have BX1_4 := BX1_3.below hb4 (by omega); clear BX1_3
    have BX2_4 := BX2_3.below hb4 (by omega); clear BX2_3
    obtain ⟨kc0_0, kc0_1, kc0_2⟩ := BX1_4.cells
    obtain ⟨kc1_0, kc1_1⟩ := BX2_4.cells
    go_wp2_with fail
    have hq5 : w4.heap.size ≤ w4.heap.size := Nat.le_refl _
    go_region_held3 (fun w' => w'.cell? ⟨w.heap.size, 0, none⟩ = some (.slice A0 d0.ends.length c0) ∧ w'.cell? ⟨w.heap.size, 1, none⟩ = some (.slice A0' d0.ids.length c0') ∧ w'.cell? ⟨w.heap.size, 2, none⟩ = some (.slice A0'' d0.inputs.length c0'') ∧ w'.cell? ⟨(w.heap.size + 1), 0, none⟩ = some (.slice A1 d1.cluster.length c1) ∧ w'.cell? ⟨(w.heap.size + 1), 1, none⟩ = some (.slice A1' d1.colour.length c1'))
      (first | exact ⟨kc0_0, kc0_1, kc0_2, kc1_0, kc1_1⟩ | exact ⟨ka5_0, ka5_1, ka5_2, ka5_3, ka5_4⟩ | exact ⟨kb5_0, kb5_1, kb5_2, kb5_3, kb5_4⟩ | exact ⟨kd5_0, kd5_1, kd5_2, kd5_3, kd5_4⟩)
      (first | (go_at_call 8; refine (toNetwork_any _ d0 _ _ _ (Net.below H0.out (hbw4.trans (hba5.mono (by omega))) (Nat.le_refl _)) (by have := hba5.size; omega) (by omega)).mono ?_; rintro e wb5 ⟨rb5_0, rfl, hrb5, hbe5⟩; have hbb5 : Below w4.heap.size w4 wb5 := hba5.trans (hbe5.mono hba5.size); have Rb5_0 := Lib.hid hrb5; obtain ⟨Arb5_0, crb5_0, Arb5_0', crb5_0', Arb5_0'', crb5_0'', rfl, _⟩ := hrb5.net.parts; clear hrb5; have Rb5_1 := Lib.hid (DecX.below Ra5_1.out hbe5 (Nat.le_refl _)); have hse5 := hbe5.size; clear Ra5_1 hbe5; have kb5_0 := (hbb5.cell (p := ⟨w.heap.size, 0, none⟩) (by show w.heap.size < w4.heap.size; omega)).trans kc0_0; have kb5_1 := (hbb5.cell (p := ⟨w.heap.size, 1, none⟩) (by show w.heap.size < w4.heap.size; omega)).trans kc0_1; have kb5_2 := (hbb5.cell (p := ⟨w.heap.size, 2, none⟩) (by show w.heap.size < w4.heap.size; omega)).trans kc0_2; have kb5_3 := (hbb5.cell (p := ⟨(w.heap.size + 1), 0, none⟩) (by show (w.heap.size + 1) < w4.heap.size; omega)).trans kc1_0; have kb5_4 := (hbb5.cell (p := ⟨(w.heap.size + 1), 1, none⟩) (by show (w.heap.size + 1) < w4.heap.size; omega)).trans kc1_1) | (go_at_call 8; refine (toNetwork_any _ d0 _ _ _ (Net.below H0.out hbw4.drew (Nat.le_refl _)) (by show _ ≤ w4.heap.size; omega) (by omega)).mono ?_; rintro e wa5 ⟨ra5_0, rfl, hra5, hbd5⟩; have hba5 : Below w4.heap.size w4 wa5 := (Below.refl _ _).drew.trans hbd5; clear hbd5; have Ra5_0 := Lib.hid hra5; obtain ⟨Ara5_0, cra5_0, Ara5_0', cra5_0', Ara5_0'', cra5_0'', rfl, _⟩ := hra5.net.parts; clear hra5; have hsa5 := hba5.size; have ka5_0 := (hba5.cell (p := ⟨w.heap.size, 0, none⟩) (by show w.heap.size < w4.heap.size; omega)).trans kc0_0; have ka5_1 := (hba5.cell (p := ⟨w.heap.size, 1, none⟩) (by show w.heap.size < w4.heap.size; omega)).trans kc0_1; have ka5_2 := (hba5.cell (p := ⟨w.heap.size, 2, none⟩) (by show w.heap.size < w4.heap.size; omega)).trans kc0_2; have ka5_3 := (hba5.cell (p := ⟨(w.heap.size + 1), 0, none⟩) (by show (w.heap.size + 1) < w4.heap.size; omega)).trans kc1_0; have ka5_4 := (hba5.cell (p := ⟨(w.heap.size + 1), 1, none⟩) (by show (w.heap.size + 1) < w4.heap.size; omega)).trans kc1_1) | (go_at_call 9; refine (toDecomposition_any _ d1 _ _ _ (Dec.below H1.out (hbw4.trans (hba5.mono (by omega))) (Nat.le_refl _)) (by have := hba5.size; omega) (by omega)).mono ?_; rintro e wb5 ⟨rb5_1, rfl, hrb5, hbe5⟩; have hbb5 : Below w4.heap.size w4 wb5 := hba5.trans (hbe5.mono hba5.size); have Rb5_1 := Lib.hid hrb5; obtain ⟨Arb5_1, crb5_1, Arb5_1', crb5_1', rfl, _⟩ := hrb5.dec.parts; clear hrb5; have Rb5_0 := Lib.hid (NetX.below Ra5_0.out hbe5 (Nat.le_refl _)); have hse5 := hbe5.size; clear Ra5_0 hbe5; have kb5_0 := (hbb5.cell (p := ⟨w.heap.size, 0, none⟩) (by show w.heap.size < w4.heap.size; omega)).trans kc0_0; have kb5_1 := (hbb5.cell (p := ⟨w.heap.size, 1, none⟩) (by show w.heap.size < w4.heap.size; omega)).trans kc0_1; have kb5_2 := (hbb5.cell (p := ⟨w.heap.size, 2, none⟩) (by show w.heap.size < w4.heap.size; omega)).trans kc0_2; have kb5_3 := (hbb5.cell (p := ⟨(w.heap.size + 1), 0, none⟩) (by show (w.heap.size + 1) < w4.heap.size; omega)).trans kc1_0; have kb5_4 := (hbb5.cell (p := ⟨(w.heap.size + 1), 1, none⟩) (by show (w.heap.size + 1) < w4.heap.size; omega)).trans kc1_1) | (go_at_call 9; refine (toDecomposition_any _ d1 _ _ _ (Dec.below H1.out hbw4.drew (Nat.le_refl _)) (by show _ ≤ w4.heap.size; omega) (by omega)).mono ?_; rintro e wa5 ⟨ra5_1, rfl, hra5, hbd5⟩; have hba5 : Below w4.heap.size w4 wa5 := (Below.refl _ _).drew.trans hbd5; clear hbd5; have Ra5_1 := Lib.hid hra5; obtain ⟨Ara5_1, cra5_1, Ara5_1', cra5_1', rfl, _⟩ := hra5.dec.parts; clear hra5; have hsa5 := hba5.size; have ka5_0 := (hba5.cell (p := ⟨w.heap.size, 0, none⟩) (by show w.heap.size < w4.heap.size; omega)).trans kc0_0; have ka5_1 := (hba5.cell (p := ⟨w.heap.size, 1, none⟩) (by show w.heap.size < w4.heap.size; omega)).trans kc0_1; have ka5_2 := (hba5.cell (p := ⟨w.heap.size, 2, none⟩) (by show w.heap.size < w4.heap.size; omega)).trans kc0_2; have ka5_3 := (hba5.cell (p := ⟨(w.heap.size + 1), 0, none⟩) (by show (w.heap.size + 1) < w4.heap.size; omega)).trans kc1_0; have ka5_4 := (hba5.cell (p := ⟨(w.heap.size + 1), 1, none⟩) (by show (w.heap.size + 1) < w4.heap.size; omega)).trans kc1_1) | (go_at_call 7; refine (StrongDiameter_spec _ d0 _ _ _ d1 _ _ _ Rb5_0.out.net (by omega) Rb5_1.out.dec (by omega) (by omega) (by omega) I0.out I1.out).mono ?_; rintro e w5 ⟨rfl, hbr5⟩; have hbz5 : Below w4.heap.size w4 w5 := hbb5.trans (hbr5.mono hbb5.size); have hsb5 := hbb5.size; have hsf5 := hbr5.size; clear hbr5; have kd5_0 := (hbz5.cell (p := ⟨w.heap.size, 0, none⟩) (by show w.heap.size < w4.heap.size; omega)).trans kc0_0; have kd5_1 := (hbz5.cell (p := ⟨w.heap.size, 1, none⟩) (by show w.heap.size < w4.heap.size; omega)).trans kc0_1; have kd5_2 := (hbz5.cell (p := ⟨w.heap.size, 2, none⟩) (by show w.heap.size < w4.heap.size; omega)).trans kc0_2; have kd5_3 := (hbz5.cell (p := ⟨(w.heap.size + 1), 0, none⟩) (by show (w.heap.size + 1) < w4.heap.size; omega)).trans kc1_0; have kd5_4 := (hbz5.cell (p := ⟨(w.heap.size + 1), 1, none⟩) (by show (w.heap.size + 1) < w4.heap.size; omega)).trans kc1_1))
    all_goals
      clear kc0_0 kc0_1 kc0_2 kc1_0 kc1_1 hq5 ka5_0 ka5_1 ka5_2 ka5_3 ka5_4 kb5_0 kb5_1 kb5_2 kb5_3 kb5_4 kd5_0 kd5_1 kd5_2 kd5_3 kd5_4 Rb5_0 Rb5_1 hba5 hbb5
      have hs5 := hbz5.size
      have hbw5 := hbw4.trans (hbz5.mono (by omega))
      clear hbw4
      have BX1_5 := BX1_4.below hbz5 (by omega); clear BX1_4
      have BX2_5 := BX2_4.below hbz5 (by omega); clear BX2_4
      obtain ⟨kc0_0, kc0_1, kc0_2⟩ := BX1_5.cells
      obtain ⟨kc1_0, kc1_1⟩ := BX2_5.cells
      go_wp2_with fail
      clear kc0_0 kc0_1 kc0_2 kc1_0 kc1_1
      refine (toNetwork_any _ d0 _ _ _ (Net.below H0.out hbw5 (Nat.le_refl _)) (by omega) (by omega)).mono ?_
      rintro e w6 ⟨r6, rfl, hr6, hb6⟩
      have hs6 := hb6.size
      have hbw6 := hbw5.trans (hb6.mono (by omega))
      clear hbw5
      have BX1_6 := BX1_5.below hb6 (by omega); clear BX1_5
      have BX2_6 := BX2_5.below hb6 (by omega); clear BX2_5
      have R6 := Lib.hid hr6
      obtain ⟨Ar6, cr6, Ar6', cr6', Ar6'', cr6'', rfl, _⟩ := hr6.net.parts
      clear hr6
      obtain ⟨w7, HW7⟩ : ∃ W, Hid (W = w6.alloc (.cells #[.slice Ar6 d0.ends.length cr6, .slice Ar6' d0.ids.length cr6', .slice Ar6'' d0.inputs.length cr6''] 34)) := ⟨_, Lib.hid rfl⟩
      have hb7 : Below w6.heap.size w6 w7 := by rw [HW7.out]; exact below_a1 _ _
      have hz7 : w6.heap.size + 1 ≤ w7.heap.size := by rw [HW7.out]; simp
      have hs7 := hb7.size
      have hbw7 := hbw6.trans (hb7.mono (by omega))
      clear hbw6
      have R6_7 := Lib.hid (NetX.below R6.out hb7 (by omega)); clear R6
      have BX1_7 := BX1_6.below hb7 (by omega); clear BX1_6
      have BX2_7 := BX2_6.below hb7 (by omega); clear BX2_6
      have BX7 : Box3 w7 w6.heap.size 34 (.slice Ar6 d0.ends.length cr6) (.slice Ar6' d0.ids.length cr6') (.slice Ar6'' d0.inputs.length cr6'') := by rw [HW7.out]; exact Box3.new _ _ _ _ _
      obtain ⟨kc0_0, kc0_1, kc0_2⟩ := BX1_7.cells
      obtain ⟨kc1_0, kc1_1⟩ := BX2_7.cells
      obtain ⟨kc2_0, kc2_1, kc2_2⟩ := BX7.cells
      have kc0_0p := kc0_0; rw [HW7.out] at kc0_0p
      have kc0_1p := kc0_1; rw [HW7.out] at kc0_1p
      have kc0_2p := kc0_2; rw [HW7.out] at kc0_2p
      have kc1_0p := kc1_0; rw [HW7.out] at kc1_0p
      have kc1_1p := kc1_1; rw [HW7.out] at kc1_1p
      have kc2_0p := kc2_0; rw [HW7.out] at kc2_0p
      have kc2_1p := kc2_1; rw [HW7.out] at kc2_1p
      have kc2_2p := kc2_2; rw [HW7.out] at kc2_2p
      go_wp2_with fail
      rw [← HW7.out]; clear HW7
      clear kc0_0 kc0_1 kc0_2 kc1_0 kc1_1 kc2_0 kc2_1 kc2_2 kc0_0p kc0_1p kc0_2p kc1_0p kc1_1p kc2_0p kc2_1p kc2_2p
      refine (toDecomposition_any _ d1 _ _ _ (Dec.below H1.out hbw7 (Nat.le_refl _)) (by omega) (by omega)).mono ?_
      rintro e w8 ⟨r8, rfl, hr8, hb8⟩
      have hs8 := hb8.size
      have hbw8 := hbw7.trans (hb8.mono (by omega))
      clear hbw7
      have R6_8 := Lib.hid (NetX.below R6_7.out hb8 (by omega)); clear R6_7
      have BX1_8 := BX1_7.below hb8 (by omega); clear BX1_7
      have BX2_8 := BX2_7.below hb8 (by omega); clear BX2_7
      have BX7_8 := BX7.below hb8 (by omega); clear BX7
      have R8 := Lib.hid hr8
      obtain ⟨Ar8, cr8, Ar8', cr8', rfl, _⟩ := hr8.dec.parts
      clear hr8
      obtain ⟨w9, HW9⟩ : ∃ W, Hid (W = w8.alloc (.cells #[.slice Ar8 d1.cluster.length cr8, .slice Ar8' d1.colour.length cr8'] 36)) := ⟨_, Lib.hid rfl⟩
      have hb9 : Below w8.heap.size w8 w9 := by rw [HW9.out]; exact below_a1 _ _
      have hz9 : w8.heap.size + 1 ≤ w9.heap.size := by rw [HW9.out]; simp
      have hs9 := hb9.size
      have hbw9 := hbw8.trans (hb9.mono (by omega))
      clear hbw8
      have R6_9 := Lib.hid (NetX.below R6_8.out hb9 (by omega)); clear R6_8
      have R8_9 := Lib.hid (DecX.below R8.out hb9 (by omega)); clear R8
      have BX1_9 := BX1_8.below hb9 (by omega); clear BX1_8
      have BX2_9 := BX2_8.below hb9 (by omega); clear BX2_8
      have BX7_9 := BX7_8.below hb9 (by omega); clear BX7_8
      have BX9 : Box2 w9 w8.heap.size 36 (.slice Ar8 d1.cluster.length cr8) (.slice Ar8' d1.colour.length cr8') := by rw [HW9.out]; exact Box2.new _ _ _ _
      obtain ⟨kc0_0, kc0_1, kc0_2⟩ := BX1_9.cells
      obtain ⟨kc1_0, kc1_1⟩ := BX2_9.cells
      obtain ⟨kc2_0, kc2_1, kc2_2⟩ := BX7_9.cells
      obtain ⟨kc3_0, kc3_1⟩ := BX9.cells
      have kc0_0p := kc0_0; rw [HW9.out] at kc0_0p
      have kc0_1p := kc0_1; rw [HW9.out] at kc0_1p
      have kc0_2p := kc0_2; rw [HW9.out] at kc0_2p
      have kc1_0p := kc1_0; rw [HW9.out] at kc1_0p
      have kc1_1p := kc1_1; rw [HW9.out] at kc1_1p
      have kc2_0p := kc2_0; rw [HW9.out] at kc2_0p
      have kc2_1p := kc2_1; rw [HW9.out] at kc2_1p
      have kc2_2p := kc2_2; rw [HW9.out] at kc2_2p
      have kc3_0p := kc3_0; rw [HW9.out] at kc3_0p
      have kc3_1p := kc3_1; rw [HW9.out] at kc3_1p
      go_wp2_with fail
      rw [← HW9.out]; clear HW9
      clear kc0_0 kc0_1 kc0_2 kc1_0 kc1_1 kc2_0 kc2_1 kc2_2 kc3_0 kc3_1 kc0_0p kc0_1p kc0_2p kc1_0p kc1_1p kc2_0p kc2_1p kc2_2p kc3_0p kc3_1p
      refine (StrongDiameter_impl _ d0 _ _ _ d1 _ _ _ R6_9.out.net (by omega) R8_9.out.dec (by omega) (by omega) (by omega) I0.out I1.out).mono ?_
      rintro e w10 ⟨rfl, hb10⟩
      have hs10 := hb10.size
      have hbw10 := hbw9.trans (hb10.mono (by omega))
      clear hbw9
      have R6_10 := Lib.hid (NetX.below R6_9.out hb10 (by omega)); clear R6_9
      have R8_10 := Lib.hid (DecX.below R8_9.out hb10 (by omega)); clear R8_9
      have BX1_10 := BX1_9.below hb10 (by omega); clear BX1_9
      have BX2_10 := BX2_9.below hb10 (by omega); clear BX2_9
      have BX7_10 := BX7_9.below hb10 (by omega); clear BX7_9
      have BX9_10 := BX9.below hb10 (by omega); clear BX9
      obtain ⟨kc0_0, kc0_1, kc0_2⟩ := BX1_10.cells
      obtain ⟨kc1_0, kc1_1⟩ := BX2_10.cells
      obtain ⟨kc2_0, kc2_1, kc2_2⟩ := BX7_10.cells
      obtain ⟨kc3_0, kc3_1⟩ := BX9_10.cells
      go_wp2_with fail
      have hq11 : w10.heap.size ≤ w10.heap.size := Nat.le_refl _
      go_region_held3 (fun w' => w'.cell? ⟨w.heap.size, 0, none⟩ = some (.slice A0 d0.ends.length c0) ∧ w'.cell? ⟨w.heap.size, 1, none⟩ = some (.slice A0' d0.ids.length c0') ∧ w'.cell? ⟨w.heap.size, 2, none⟩ = some (.slice A0'' d0.inputs.length c0'') ∧ w'.cell? ⟨(w.heap.size + 1), 0, none⟩ = some (.slice A1 d1.cluster.length c1) ∧ w'.cell? ⟨(w.heap.size + 1), 1, none⟩ = some (.slice A1' d1.colour.length c1') ∧ w'.cell? ⟨w6.heap.size, 0, none⟩ = some (.slice Ar6 d0.ends.length cr6) ∧ w'.cell? ⟨w6.heap.size, 1, none⟩ = some (.slice Ar6' d0.ids.length cr6') ∧ w'.cell? ⟨w6.heap.size, 2, none⟩ = some (.slice Ar6'' d0.inputs.length cr6'') ∧ w'.cell? ⟨w8.heap.size, 0, none⟩ = some (.slice Ar8 d1.cluster.length cr8) ∧ w'.cell? ⟨w8.heap.size, 1, none⟩ = some (.slice Ar8' d1.colour.length cr8'))
        (first | exact ⟨kc0_0, kc0_1, kc0_2, kc1_0, kc1_1, kc2_0, kc2_1, kc2_2, kc3_0, kc3_1⟩ | exact ⟨(hb11.cell (p := ⟨w.heap.size, 0, none⟩) (by show w.heap.size < w10.heap.size; omega)).trans kc0_0, (hb11.cell (p := ⟨w.heap.size, 1, none⟩) (by show w.heap.size < w10.heap.size; omega)).trans kc0_1, (hb11.cell (p := ⟨w.heap.size, 2, none⟩) (by show w.heap.size < w10.heap.size; omega)).trans kc0_2, (hb11.cell (p := ⟨(w.heap.size + 1), 0, none⟩) (by show (w.heap.size + 1) < w10.heap.size; omega)).trans kc1_0, (hb11.cell (p := ⟨(w.heap.size + 1), 1, none⟩) (by show (w.heap.size + 1) < w10.heap.size; omega)).trans kc1_1, (hb11.cell (p := ⟨w6.heap.size, 0, none⟩) (by show w6.heap.size < w10.heap.size; omega)).trans kc2_0, (hb11.cell (p := ⟨w6.heap.size, 1, none⟩) (by show w6.heap.size < w10.heap.size; omega)).trans kc2_1, (hb11.cell (p := ⟨w6.heap.size, 2, none⟩) (by show w6.heap.size < w10.heap.size; omega)).trans kc2_2, (hb11.cell (p := ⟨w8.heap.size, 0, none⟩) (by show w8.heap.size < w10.heap.size; omega)).trans kc3_0, (hb11.cell (p := ⟨w8.heap.size, 1, none⟩) (by show w8.heap.size < w10.heap.size; omega)).trans kc3_1⟩ | exact ⟨kq11_0, kq11_1, kq11_2, kq11_3, kq11_4, kq11_5, kq11_6, kq11_7, kq11_8, kq11_9⟩)
        (first | (go_at_call 8; refine (toNetwork_any _ d0 _ _ _ (Net.below H0.out hbw10.drew (Nat.le_refl _)) (by show _ ≤ w10.heap.size; omega) (by omega)).mono ?_; rintro e w11 ⟨r11, rfl, hr11, hbd11⟩; have hb11 : Below w10.heap.size w10 w11 := (Below.refl _ _).drew.trans hbd11; clear hbd11; have R11 := Lib.hid hr11; obtain ⟨Ar11, cr11, Ar11', cr11', Ar11'', cr11'', rfl, _⟩ := hr11.net.parts; clear hr11) | (go_at_call 11; refine (eqNetwork_same _ _ d0 _ _ _ _ _ (Net.below (R6_10.out.net) hb11 (by show _ ≤ w10.heap.size; omega)) (R11.out.net) (by have := hb11.size; show _ ≤ w11.heap.size; exact Nat.le_trans (by show _ ≤ w10.heap.size; omega) this) (Nat.le_refl _)).mono ?_; rintro e wq11 ⟨rfl, hbq11⟩; have kq11_0 := (hbq11.cell (p := ⟨w.heap.size, 0, none⟩) (by have := hb11.size; show w.heap.size < w11.heap.size; exact Nat.lt_of_lt_of_le (by show w.heap.size < w10.heap.size; omega) this)).trans ((hb11.cell (p := ⟨w.heap.size, 0, none⟩) (by show w.heap.size < w10.heap.size; omega)).trans kc0_0); have kq11_1 := (hbq11.cell (p := ⟨w.heap.size, 1, none⟩) (by have := hb11.size; show w.heap.size < w11.heap.size; exact Nat.lt_of_lt_of_le (by show w.heap.size < w10.heap.size; omega) this)).trans ((hb11.cell (p := ⟨w.heap.size, 1, none⟩) (by show w.heap.size < w10.heap.size; omega)).trans kc0_1); have kq11_2 := (hbq11.cell (p := ⟨w.heap.size, 2, none⟩) (by have := hb11.size; show w.heap.size < w11.heap.size; exact Nat.lt_of_lt_of_le (by show w.heap.size < w10.heap.size; omega) this)).trans ((hb11.cell (p := ⟨w.heap.size, 2, none⟩) (by show w.heap.size < w10.heap.size; omega)).trans kc0_2); have kq11_3 := (hbq11.cell (p := ⟨(w.heap.size + 1), 0, none⟩) (by have := hb11.size; show (w.heap.size + 1) < w11.heap.size; exact Nat.lt_of_lt_of_le (by show (w.heap.size + 1) < w10.heap.size; omega) this)).trans ((hb11.cell (p := ⟨(w.heap.size + 1), 0, none⟩) (by show (w.heap.size + 1) < w10.heap.size; omega)).trans kc1_0); have kq11_4 := (hbq11.cell (p := ⟨(w.heap.size + 1), 1, none⟩) (by have := hb11.size; show (w.heap.size + 1) < w11.heap.size; exact Nat.lt_of_lt_of_le (by show (w.heap.size + 1) < w10.heap.size; omega) this)).trans ((hb11.cell (p := ⟨(w.heap.size + 1), 1, none⟩) (by show (w.heap.size + 1) < w10.heap.size; omega)).trans kc1_1); have kq11_5 := (hbq11.cell (p := ⟨w6.heap.size, 0, none⟩) (by have := hb11.size; show w6.heap.size < w11.heap.size; exact Nat.lt_of_lt_of_le (by show w6.heap.size < w10.heap.size; omega) this)).trans ((hb11.cell (p := ⟨w6.heap.size, 0, none⟩) (by show w6.heap.size < w10.heap.size; omega)).trans kc2_0); have kq11_6 := (hbq11.cell (p := ⟨w6.heap.size, 1, none⟩) (by have := hb11.size; show w6.heap.size < w11.heap.size; exact Nat.lt_of_lt_of_le (by show w6.heap.size < w10.heap.size; omega) this)).trans ((hb11.cell (p := ⟨w6.heap.size, 1, none⟩) (by show w6.heap.size < w10.heap.size; omega)).trans kc2_1); have kq11_7 := (hbq11.cell (p := ⟨w6.heap.size, 2, none⟩) (by have := hb11.size; show w6.heap.size < w11.heap.size; exact Nat.lt_of_lt_of_le (by show w6.heap.size < w10.heap.size; omega) this)).trans ((hb11.cell (p := ⟨w6.heap.size, 2, none⟩) (by show w6.heap.size < w10.heap.size; omega)).trans kc2_2); have kq11_8 := (hbq11.cell (p := ⟨w8.heap.size, 0, none⟩) (by have := hb11.size; show w8.heap.size < w11.heap.size; exact Nat.lt_of_lt_of_le (by show w8.heap.size < w10.heap.size; omega) this)).trans ((hb11.cell (p := ⟨w8.heap.size, 0, none⟩) (by show w8.heap.size < w10.heap.size; omega)).trans kc3_0); have kq11_9 := (hbq11.cell (p := ⟨w8.heap.size, 1, none⟩) (by have := hb11.size; show w8.heap.size < w11.heap.size; exact Nat.lt_of_lt_of_le (by show w8.heap.size < w10.heap.size; omega) this)).trans ((hb11.cell (p := ⟨w8.heap.size, 1, none⟩) (by show w8.heap.size < w10.heap.size; omega)).trans kc3_1)))
      clear kc0_0 kc0_1 kc0_2 kc1_0 kc1_1 kc2_0 kc2_1 kc2_2 kc3_0 kc3_1 hq11 kq11_0 kq11_1 kq11_2 kq11_3 kq11_4 kq11_5 kq11_6 kq11_7 kq11_8 kq11_9
      clear R11
      have hbz11 : Below w10.heap.size w10 wq11 := Below.trans hb11 (hbq11.mono hb11.size)
      clear hb11 hbq11
      have hs11 := hbz11.size
      have hbw11 := hbw10.trans (hbz11.mono (by omega))
      clear hbw10
      have R6_11 := Lib.hid (NetX.below R6_10.out hbz11 (by omega)); clear R6_10
      have R8_11 := Lib.hid (DecX.below R8_10.out hbz11 (by omega)); clear R8_10
      have BX1_11 := BX1_10.below hbz11 (by omega); clear BX1_10
      have BX2_11 := BX2_10.below hbz11 (by omega); clear BX2_10
      have BX7_11 := BX7_10.below hbz11 (by omega); clear BX7_10
      have BX9_11 := BX9_10.below hbz11 (by omega); clear BX9_10
      obtain ⟨kc0_0, kc0_1, kc0_2⟩ := BX1_11.cells
      obtain ⟨kc1_0, kc1_1⟩ := BX2_11.cells
      obtain ⟨kc2_0, kc2_1, kc2_2⟩ := BX7_11.cells
      obtain ⟨kc3_0, kc3_1⟩ := BX9_11.cells
      go_wp2_with fail
      have hq12 : wq11.heap.size ≤ wq11.heap.size := Nat.le_refl _
      go_region_held3 (fun w' => w'.cell? ⟨w.heap.size, 0, none⟩ = some (.slice A0 d0.ends.length c0) ∧ w'.cell? ⟨w.heap.size, 1, none⟩ = some (.slice A0' d0.ids.length c0') ∧ w'.cell? ⟨w.heap.size, 2, none⟩ = some (.slice A0'' d0.inputs.length c0'') ∧ w'.cell? ⟨(w.heap.size + 1), 0, none⟩ = some (.slice A1 d1.cluster.length c1) ∧ w'.cell? ⟨(w.heap.size + 1), 1, none⟩ = some (.slice A1' d1.colour.length c1') ∧ w'.cell? ⟨w6.heap.size, 0, none⟩ = some (.slice Ar6 d0.ends.length cr6) ∧ w'.cell? ⟨w6.heap.size, 1, none⟩ = some (.slice Ar6' d0.ids.length cr6') ∧ w'.cell? ⟨w6.heap.size, 2, none⟩ = some (.slice Ar6'' d0.inputs.length cr6'') ∧ w'.cell? ⟨w8.heap.size, 0, none⟩ = some (.slice Ar8 d1.cluster.length cr8) ∧ w'.cell? ⟨w8.heap.size, 1, none⟩ = some (.slice Ar8' d1.colour.length cr8'))
        (first | exact ⟨kc0_0, kc0_1, kc0_2, kc1_0, kc1_1, kc2_0, kc2_1, kc2_2, kc3_0, kc3_1⟩ | exact ⟨(hb12.cell (p := ⟨w.heap.size, 0, none⟩) (by show w.heap.size < wq11.heap.size; omega)).trans kc0_0, (hb12.cell (p := ⟨w.heap.size, 1, none⟩) (by show w.heap.size < wq11.heap.size; omega)).trans kc0_1, (hb12.cell (p := ⟨w.heap.size, 2, none⟩) (by show w.heap.size < wq11.heap.size; omega)).trans kc0_2, (hb12.cell (p := ⟨(w.heap.size + 1), 0, none⟩) (by show (w.heap.size + 1) < wq11.heap.size; omega)).trans kc1_0, (hb12.cell (p := ⟨(w.heap.size + 1), 1, none⟩) (by show (w.heap.size + 1) < wq11.heap.size; omega)).trans kc1_1, (hb12.cell (p := ⟨w6.heap.size, 0, none⟩) (by show w6.heap.size < wq11.heap.size; omega)).trans kc2_0, (hb12.cell (p := ⟨w6.heap.size, 1, none⟩) (by show w6.heap.size < wq11.heap.size; omega)).trans kc2_1, (hb12.cell (p := ⟨w6.heap.size, 2, none⟩) (by show w6.heap.size < wq11.heap.size; omega)).trans kc2_2, (hb12.cell (p := ⟨w8.heap.size, 0, none⟩) (by show w8.heap.size < wq11.heap.size; omega)).trans kc3_0, (hb12.cell (p := ⟨w8.heap.size, 1, none⟩) (by show w8.heap.size < wq11.heap.size; omega)).trans kc3_1⟩ | exact ⟨kq12_0, kq12_1, kq12_2, kq12_3, kq12_4, kq12_5, kq12_6, kq12_7, kq12_8, kq12_9⟩)
        (first | (go_at_call 9; refine (toDecomposition_any _ d1 _ _ _ (Dec.below H1.out hbw11.drew (Nat.le_refl _)) (by show _ ≤ wq11.heap.size; omega) (by omega)).mono ?_; rintro e w12 ⟨r12, rfl, hr12, hbd12⟩; have hb12 : Below wq11.heap.size wq11 w12 := (Below.refl _ _).drew.trans hbd12; clear hbd12; have R12 := Lib.hid hr12; obtain ⟨Ar12, cr12, Ar12', cr12', rfl, _⟩ := hr12.dec.parts; clear hr12) | (go_at_call 12; refine (eqDecomposition_same _ _ d1 _ _ _ _ _ (Dec.below (R8_11.out.dec) hb12 (by show _ ≤ wq11.heap.size; omega)) (R12.out.dec) (by have := hb12.size; show _ ≤ w12.heap.size; exact Nat.le_trans (by show _ ≤ wq11.heap.size; omega) this) (Nat.le_refl _)).mono ?_; rintro e wq12 ⟨rfl, hbq12⟩; have kq12_0 := (hbq12.cell (p := ⟨w.heap.size, 0, none⟩) (by have := hb12.size; show w.heap.size < w12.heap.size; exact Nat.lt_of_lt_of_le (by show w.heap.size < wq11.heap.size; omega) this)).trans ((hb12.cell (p := ⟨w.heap.size, 0, none⟩) (by show w.heap.size < wq11.heap.size; omega)).trans kc0_0); have kq12_1 := (hbq12.cell (p := ⟨w.heap.size, 1, none⟩) (by have := hb12.size; show w.heap.size < w12.heap.size; exact Nat.lt_of_lt_of_le (by show w.heap.size < wq11.heap.size; omega) this)).trans ((hb12.cell (p := ⟨w.heap.size, 1, none⟩) (by show w.heap.size < wq11.heap.size; omega)).trans kc0_1); have kq12_2 := (hbq12.cell (p := ⟨w.heap.size, 2, none⟩) (by have := hb12.size; show w.heap.size < w12.heap.size; exact Nat.lt_of_lt_of_le (by show w.heap.size < wq11.heap.size; omega) this)).trans ((hb12.cell (p := ⟨w.heap.size, 2, none⟩) (by show w.heap.size < wq11.heap.size; omega)).trans kc0_2); have kq12_3 := (hbq12.cell (p := ⟨(w.heap.size + 1), 0, none⟩) (by have := hb12.size; show (w.heap.size + 1) < w12.heap.size; exact Nat.lt_of_lt_of_le (by show (w.heap.size + 1) < wq11.heap.size; omega) this)).trans ((hb12.cell (p := ⟨(w.heap.size + 1), 0, none⟩) (by show (w.heap.size + 1) < wq11.heap.size; omega)).trans kc1_0); have kq12_4 := (hbq12.cell (p := ⟨(w.heap.size + 1), 1, none⟩) (by have := hb12.size; show (w.heap.size + 1) < w12.heap.size; exact Nat.lt_of_lt_of_le (by show (w.heap.size + 1) < wq11.heap.size; omega) this)).trans ((hb12.cell (p := ⟨(w.heap.size + 1), 1, none⟩) (by show (w.heap.size + 1) < wq11.heap.size; omega)).trans kc1_1); have kq12_5 := (hbq12.cell (p := ⟨w6.heap.size, 0, none⟩) (by have := hb12.size; show w6.heap.size < w12.heap.size; exact Nat.lt_of_lt_of_le (by show w6.heap.size < wq11.heap.size; omega) this)).trans ((hb12.cell (p := ⟨w6.heap.size, 0, none⟩) (by show w6.heap.size < wq11.heap.size; omega)).trans kc2_0); have kq12_6 := (hbq12.cell (p := ⟨w6.heap.size, 1, none⟩) (by have := hb12.size; show w6.heap.size < w12.heap.size; exact Nat.lt_of_lt_of_le (by show w6.heap.size < wq11.heap.size; omega) this)).trans ((hb12.cell (p := ⟨w6.heap.size, 1, none⟩) (by show w6.heap.size < wq11.heap.size; omega)).trans kc2_1); have kq12_7 := (hbq12.cell (p := ⟨w6.heap.size, 2, none⟩) (by have := hb12.size; show w6.heap.size < w12.heap.size; exact Nat.lt_of_lt_of_le (by show w6.heap.size < wq11.heap.size; omega) this)).trans ((hb12.cell (p := ⟨w6.heap.size, 2, none⟩) (by show w6.heap.size < wq11.heap.size; omega)).trans kc2_2); have kq12_8 := (hbq12.cell (p := ⟨w8.heap.size, 0, none⟩) (by have := hb12.size; show w8.heap.size < w12.heap.size; exact Nat.lt_of_lt_of_le (by show w8.heap.size < wq11.heap.size; omega) this)).trans ((hb12.cell (p := ⟨w8.heap.size, 0, none⟩) (by show w8.heap.size < wq11.heap.size; omega)).trans kc3_0); have kq12_9 := (hbq12.cell (p := ⟨w8.heap.size, 1, none⟩) (by have := hb12.size; show w8.heap.size < w12.heap.size; exact Nat.lt_of_lt_of_le (by show w8.heap.size < wq11.heap.size; omega) this)).trans ((hb12.cell (p := ⟨w8.heap.size, 1, none⟩) (by show w8.heap.size < wq11.heap.size; omega)).trans kc3_1)))
      clear kc0_0 kc0_1 kc0_2 kc1_0 kc1_1 kc2_0 kc2_1 kc2_2 kc3_0 kc3_1 hq12 kq12_0 kq12_1 kq12_2 kq12_3 kq12_4 kq12_5 kq12_6 kq12_7 kq12_8 kq12_9
      clear R12
      have hbz12 : Below wq11.heap.size wq11 wq12 := Below.trans hb12 (hbq12.mono hb12.size)
      clear hb12 hbq12
      have hs12 := hbz12.size
      have hbw12 := hbw11.trans (hbz12.mono (by omega))
      clear hbw11
      have R6_12 := Lib.hid (NetX.below R6_11.out hbz12 (by omega)); clear R6_11
      have R8_12 := Lib.hid (DecX.below R8_11.out hbz12 (by omega)); clear R8_11
      have BX1_12 := BX1_11.below hbz12 (by omega); clear BX1_11
      have BX2_12 := BX2_11.below hbz12 (by omega); clear BX2_11
      have BX7_12 := BX7_11.below hbz12 (by omega); clear BX7_11
      have BX9_12 := BX9_11.below hbz12 (by omega); clear BX9_11
      go_wp2_with fail
      go_ret
      exact ⟨rfl, hbw12⟩
end Go.Proofs.Ytcmmklcampmkjaa.fnExactStrongDiameter
