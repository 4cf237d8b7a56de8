/-
  For all arguments the program's IndependentByClusters returns what the reference's returns, leaves its arguments as they were, and returns memory of its own. No condition.
-/
import Derived.Test.YtakcjdlliejldaaGreatTuM
import Derived.Test.YtakcjdlliejldaaGreatDecLaw
import Derived.Test.YtakcjdlliejldaaGreatOpenNet
import Derived.Deep.RegionHeld3
namespace Go.Proofs.YtakcjdlliejldaaGreat.fnExactIndependentByClusters
open Go.ChangeShapes Go.WideShapes Go.ChangeAt Go.RowKit
set_option linter.unusedVariables false

theorem own : ownKnob Tryz.prog.godebug = none := by kernel_rfl
theorem laidOut : laidOutB Tryz.prog = true := by kernel_rfl

set_option maxHeartbeats 8000000 in
set_option maxRecDepth 100000 in
theorem walk (w : World) (v0 : Value) (d0 : NetD) (h0 : Net w 0 w.heap.size v0 d0) (i0 : d0.Ok) (v1 : Value) (d1 : DecD) (h1 : Dec w 0 w.heap.size v1 d1) (i1 : d1.Ok) :
    Calls Tryz.prog 3 #[v0, v1] w fun e w' => e = .returned (.bool true) ∧ Below w.heap.size w w' := by
  have H0 := Lib.hid h0
  obtain ⟨A0, c0, A0', c0', A0'', c0'', rfl, _⟩ := h0.parts
  clear h0
  have I0 := Lib.hid i0; clear i0
  have H1 := Lib.hid h1
  obtain ⟨A1, c1, A1', c1', rfl, _⟩ := h1.parts
  clear h1
  have I1 := Lib.hid i1; clear i1
  have hdl := ibOut_len d0 d1
  have hcnt0 := NetD.cnt_le d0
  have hcnt1 := DecD.cnt_le d1
  by_cases cond0 : d0.sz ≤ 1048576
  case neg =>
    obtain ⟨w1, HW1⟩ : ∃ W, Hid (W = w.alloc (.cells #[.slice A0 d0.ends.length c0, .slice A0' d0.ids.length c0', .slice A0'' d0.inputs.length c0''] 25)) := ⟨_, Lib.hid rfl⟩
    have hb1 : Below w.heap.size w w1 := by rw [HW1.out]; exact below_a1 _ _
    have hz1 : w.heap.size + 1 ≤ w1.heap.size := by rw [HW1.out]; simp
    have hs1 := hb1.size
    have hbw1 := hb1
    have BX1 : Box3 w1 w.heap.size 25 (.slice A0 d0.ends.length c0) (.slice A0' d0.ids.length c0') (.slice A0'' d0.inputs.length c0'') := by rw [HW1.out]; exact Box3.new _ _ _ _ _
    obtain ⟨w2, HW2⟩ : ∃ W, Hid (W = w1.alloc (.cells #[.slice A1 d1.cluster.length c1, .slice A1' d1.colour.length c1'] 27)) := ⟨_, Lib.hid rfl⟩
    have hb2 : Below w1.heap.size w1 w2 := by rw [HW2.out]; exact below_a1 _ _
    have hz2 : w1.heap.size + 1 ≤ w2.heap.size := by rw [HW2.out]; simp
    have hs2 := hb2.size
    have hbw2 := hbw1.trans (hb2.mono (by omega))
    clear hbw1
    have BX1_2 := BX1.below hb2 (by omega); clear BX1
    have hzz2 : w1.heap.size = w.heap.size + 1 := by rw [HW1.out]; simp
    have BX2 : Box2 w2 (w.heap.size + 1) 27 (.slice A1 d1.cluster.length c1) (.slice A1' d1.colour.length c1') := by rw [← hzz2, HW2.out]; exact Box2.new _ _ _ _
    have hzy2 : w.heap.size + 1 < w2.heap.size := by omega
    clear hzz2
    go_enter Tryz.func3, Tryz.ntmps3
    obtain ⟨kc0_0, kc0_1, kc0_2⟩ := BX1_2.cells
    obtain ⟨kc1_0, kc1_1⟩ := BX2.cells
    go_wp2_with fail
    rw [← HW1.out]; clear HW1
    rw [← HW2.out]; clear HW2
    clear kc0_0 kc0_1 kc0_2 kc1_0 kc1_1
    refine (szNetwork_no _ d0 _ _ _ _ (Net.below H0.out hbw2 (Nat.le_refl _)) (by omega) (by omega) (by omega) (by omega)).mono ?_
    rintro e w3 ⟨rfl, hb3⟩
    have hs3 := hb3.size
    have hbw3 := hbw2.trans (hb3.mono (by omega))
    clear hbw2
    have BX1_3 := BX1_2.below hb3 (by omega); clear BX1_2
    have BX2_3 := BX2.below hb3 (by omega); clear BX2
    obtain ⟨kc0_0, kc0_1, kc0_2⟩ := BX1_3.cells
    obtain ⟨kc1_0, kc1_1⟩ := BX2_3.cells
    go_wp2_with fail
    clear kc0_0 kc0_1 kc0_2 kc1_0 kc1_1
    go_ret
    exact ⟨rfl, hbw3⟩
  by_cases cond1 : d0.sz + d1.sz ≤ 1048576
  case neg =>
    obtain ⟨w1, HW1⟩ : ∃ W, Hid (W = w.alloc (.cells #[.slice A0 d0.ends.length c0, .slice A0' d0.ids.length c0', .slice A0'' d0.inputs.length c0''] 25)) := ⟨_, Lib.hid rfl⟩
    have hb1 : Below w.heap.size w w1 := by rw [HW1.out]; exact below_a1 _ _
    have hz1 : w.heap.size + 1 ≤ w1.heap.size := by rw [HW1.out]; simp
    have hs1 := hb1.size
    have hbw1 := hb1
    have BX1 : Box3 w1 w.heap.size 25 (.slice A0 d0.ends.length c0) (.slice A0' d0.ids.length c0') (.slice A0'' d0.inputs.length c0'') := by rw [HW1.out]; exact Box3.new _ _ _ _ _
    obtain ⟨w2, HW2⟩ : ∃ W, Hid (W = w1.alloc (.cells #[.slice A1 d1.cluster.length c1, .slice A1' d1.colour.length c1'] 27)) := ⟨_, Lib.hid rfl⟩
    have hb2 : Below w1.heap.size w1 w2 := by rw [HW2.out]; exact below_a1 _ _
    have hz2 : w1.heap.size + 1 ≤ w2.heap.size := by rw [HW2.out]; simp
    have hs2 := hb2.size
    have hbw2 := hbw1.trans (hb2.mono (by omega))
    clear hbw1
    have BX1_2 := BX1.below hb2 (by omega); clear BX1
    have hzz2 : w1.heap.size = w.heap.size + 1 := by rw [HW1.out]; simp
    have BX2 : Box2 w2 (w.heap.size + 1) 27 (.slice A1 d1.cluster.length c1) (.slice A1' d1.colour.length c1') := by rw [← hzz2, HW2.out]; exact Box2.new _ _ _ _
    have hzy2 : w.heap.size + 1 < w2.heap.size := by omega
    clear hzz2
    go_enter Tryz.func3, Tryz.ntmps3
    obtain ⟨kc0_0, kc0_1, kc0_2⟩ := BX1_2.cells
    obtain ⟨kc1_0, kc1_1⟩ := BX2.cells
    go_wp2_with fail
    rw [← HW1.out]; clear HW1
    rw [← HW2.out]; clear HW2
    clear kc0_0 kc0_1 kc0_2 kc1_0 kc1_1
    refine (szNetwork_yes _ d0 _ _ _ _ (Net.below H0.out hbw2 (Nat.le_refl _)) (by omega) (by omega) (by omega)).mono ?_
    rintro e w3 ⟨rfl, hb3⟩
    have hs3 := hb3.size
    have hbw3 := hbw2.trans (hb3.mono (by omega))
    clear hbw2
    have BX1_3 := BX1_2.below hb3 (by omega); clear BX1_2
    have BX2_3 := BX2.below hb3 (by omega); clear BX2
    obtain ⟨kc0_0, kc0_1, kc0_2⟩ := BX1_3.cells
    obtain ⟨kc1_0, kc1_1⟩ := BX2_3.cells
    go_wp2_with fail
    clear kc0_0 kc0_1 kc0_2 kc1_0 kc1_1
    refine (szDecomposition_no _ d1 _ _ _ _ (Dec.below H1.out hbw3 (Nat.le_refl _)) (by omega) (by omega) (by omega) (by omega)).mono ?_
    rintro e w4 ⟨rfl, hb4⟩
    have hs4 := hb4.size
    have hbw4 := hbw3.trans (hb4.mono (by omega))
    clear hbw3
    have BX1_4 := BX1_3.below hb4 (by omega); clear BX1_3
    have BX2_4 := BX2_3.below hb4 (by omega); clear BX2_3
    obtain ⟨kc0_0, kc0_1, kc0_2⟩ := BX1_4.cells
    obtain ⟨kc1_0, kc1_1⟩ := BX2_4.cells
    go_wp2_with fail
    clear kc0_0 kc0_1 kc0_2 kc1_0 kc1_1
    go_ret
    exact ⟨rfl, hbw4⟩
  case pos =>
    obtain ⟨w1, HW1⟩ : ∃ W, Hid (W = w.alloc (.cells #[.slice A0 d0.ends.length c0, .slice A0' d0.ids.length c0', .slice A0'' d0.inputs.length c0''] 25)) := ⟨_, Lib.hid rfl⟩
    have hb1 : Below w.heap.size w w1 := by rw [HW1.out]; exact below_a1 _ _
    have hz1 : w.heap.size + 1 ≤ w1.heap.size := by rw [HW1.out]; simp
    have hs1 := hb1.size
    have hbw1 := hb1
    have BX1 : Box3 w1 w.heap.size 25 (.slice A0 d0.ends.length c0) (.slice A0' d0.ids.length c0') (.slice A0'' d0.inputs.length c0'') := by rw [HW1.out]; exact Box3.new _ _ _ _ _
    obtain ⟨w2, HW2⟩ : ∃ W, Hid (W = w1.alloc (.cells #[.slice A1 d1.cluster.length c1, .slice A1' d1.colour.length c1'] 27)) := ⟨_, Lib.hid rfl⟩
    have hb2 : Below w1.heap.size w1 w2 := by rw [HW2.out]; exact below_a1 _ _
    have hz2 : w1.heap.size + 1 ≤ w2.heap.size := by rw [HW2.out]; simp
    have hs2 := hb2.size
    have hbw2 := hbw1.trans (hb2.mono (by omega))
    clear hbw1
    have BX1_2 := BX1.below hb2 (by omega); clear BX1
    have hzz2 : w1.heap.size = w.heap.size + 1 := by rw [HW1.out]; simp
    have BX2 : Box2 w2 (w.heap.size + 1) 27 (.slice A1 d1.cluster.length c1) (.slice A1' d1.colour.length c1') := by rw [← hzz2, HW2.out]; exact Box2.new _ _ _ _
    have hzy2 : w.heap.size + 1 < w2.heap.size := by omega
    clear hzz2
    go_enter Tryz.func3, Tryz.ntmps3
    obtain ⟨kc0_0, kc0_1, kc0_2⟩ := BX1_2.cells
    obtain ⟨kc1_0, kc1_1⟩ := BX2.cells
    go_wp2_with fail
    rw [← HW1.out]; clear HW1
    rw [← HW2.out]; clear HW2
    clear kc0_0 kc0_1 kc0_2 kc1_0 kc1_1
    refine (szNetwork_yes _ d0 _ _ _ _ (Net.below H0.out hbw2 (Nat.le_refl _)) (by omega) (by omega) (by omega)).mono ?_
    rintro e w3 ⟨rfl, hb3⟩
    have hs3 := hb3.size
    have hbw3 := hbw2.trans (hb3.mono (by omega))
    clear hbw2
    have BX1_3 := BX1_2.below hb3 (by omega); clear BX1_2
    have BX2_3 := BX2.below hb3 (by omega); clear BX2
    obtain ⟨kc0_0, kc0_1, kc0_2⟩ := BX1_3.cells
    obtain ⟨kc1_0, kc1_1⟩ := BX2_3.cells
    go_wp2_with fail
    clear kc0_0 kc0_1 kc0_2 kc1_0 kc1_1
    refine (szDecomposition_yes _ d1 _ _ _ _ (Dec.below H1.out hbw3 (Nat.le_refl _)) (by omega) (by omega) (by omega)).mono ?_
    rintro e w4 ⟨rfl, hb4⟩
    have hs4 := hb4.size
    have hbw4 := hbw3.trans (hb4.mono (by omega))
    clear hbw3
    have BX1_4 := BX1_3.below hb4 (by omega); clear BX1_3
    have BX2_4 := BX2_3.below hb4 (by omega); clear BX2_3
    obtain ⟨kc0_0, kc0_1, kc0_2⟩ := BX1_4.cells
    obtain ⟨kc1_0, kc1_1⟩ := BX2_4.cells
    go_wp2_with fail
    have hq5 : w4.heap.size ≤ w4.heap.size := Nat.le_refl _
    go_region_held3 (fun w' => w'.cell? ⟨w.heap.size, 0, none⟩ = some (.slice A0 d0.ends.length c0) ∧ w'.cell? ⟨w.heap.size, 1, none⟩ = some (.slice A0' d0.ids.length c0') ∧ w'.cell? ⟨w.heap.size, 2, none⟩ = some (.slice A0'' d0.inputs.length c0'') ∧ w'.cell? ⟨(w.heap.size + 1), 0, none⟩ = some (.slice A1 d1.cluster.length c1) ∧ w'.cell? ⟨(w.heap.size + 1), 1, none⟩ = some (.slice A1' d1.colour.length c1'))
      (first | exact ⟨kc0_0, kc0_1, kc0_2, kc1_0, kc1_1⟩ | exact ⟨ka5_0, ka5_1, ka5_2, ka5_3, ka5_4⟩ | exact ⟨kb5_0, kb5_1, kb5_2, kb5_3, kb5_4⟩ | exact ⟨kd5_0, kd5_1, kd5_2, kd5_3, kd5_4⟩)
      (first | (go_at_call 8; refine (toNetwork_any _ d0 _ _ _ (Net.below H0.out (hbw4.trans (hba5.mono (by omega))) (Nat.le_refl _)) (by have := hba5.size; omega) (by omega)).mono ?_; rintro e wb5 ⟨rb5_0, rfl, hrb5, hbe5⟩; have hbb5 : Below w4.heap.size w4 wb5 := hba5.trans (hbe5.mono hba5.size); have Rb5_0 := Lib.hid hrb5; obtain ⟨Arb5_0, crb5_0, Arb5_0', crb5_0', Arb5_0'', crb5_0'', rfl, _⟩ := hrb5.net.parts; clear hrb5; have Rb5_1 := Lib.hid (DecX.below Ra5_1.out hbe5 (Nat.le_refl _)); have hse5 := hbe5.size; clear Ra5_1 hbe5; have kb5_0 := (hbb5.cell (p := ⟨w.heap.size, 0, none⟩) (by show w.heap.size < w4.heap.size; omega)).trans kc0_0; have kb5_1 := (hbb5.cell (p := ⟨w.heap.size, 1, none⟩) (by show w.heap.size < w4.heap.size; omega)).trans kc0_1; have kb5_2 := (hbb5.cell (p := ⟨w.heap.size, 2, none⟩) (by show w.heap.size < w4.heap.size; omega)).trans kc0_2; have kb5_3 := (hbb5.cell (p := ⟨(w.heap.size + 1), 0, none⟩) (by show (w.heap.size + 1) < w4.heap.size; omega)).trans kc1_0; have kb5_4 := (hbb5.cell (p := ⟨(w.heap.size + 1), 1, none⟩) (by show (w.heap.size + 1) < w4.heap.size; omega)).trans kc1_1) | (go_at_call 8; refine (toNetwork_any _ d0 _ _ _ (Net.below H0.out hbw4.drew (Nat.le_refl _)) (by show _ ≤ w4.heap.size; omega) (by omega)).mono ?_; rintro e wa5 ⟨ra5_0, rfl, hra5, hbd5⟩; have hba5 : Below w4.heap.size w4 wa5 := (Below.refl _ _).drew.trans hbd5; clear hbd5; have Ra5_0 := Lib.hid hra5; obtain ⟨Ara5_0, cra5_0, Ara5_0', cra5_0', Ara5_0'', cra5_0'', rfl, _⟩ := hra5.net.parts; clear hra5; have hsa5 := hba5.size; have ka5_0 := (hba5.cell (p := ⟨w.heap.size, 0, none⟩) (by show w.heap.size < w4.heap.size; omega)).trans kc0_0; have ka5_1 := (hba5.cell (p := ⟨w.heap.size, 1, none⟩) (by show w.heap.size < w4.heap.size; omega)).trans kc0_1; have ka5_2 := (hba5.cell (p := ⟨w.heap.size, 2, none⟩) (by show w.heap.size < w4.heap.size; omega)).trans kc0_2; have ka5_3 := (hba5.cell (p := ⟨(w.heap.size + 1), 0, none⟩) (by show (w.heap.size + 1) < w4.heap.size; omega)).trans kc1_0; have ka5_4 := (hba5.cell (p := ⟨(w.heap.size + 1), 1, none⟩) (by show (w.heap.size + 1) < w4.heap.size; omega)).trans kc1_1) | (go_at_call 9; refine (toDecomposition_any _ d1 _ _ _ (Dec.below H1.out (hbw4.trans (hba5.mono (by omega))) (Nat.le_refl _)) (by have := hba5.size; omega) (by omega)).mono ?_; rintro e wb5 ⟨rb5_1, rfl, hrb5, hbe5⟩; have hbb5 : Below w4.heap.size w4 wb5 := hba5.trans (hbe5.mono hba5.size); have Rb5_1 := Lib.hid hrb5; obtain ⟨Arb5_1, crb5_1, Arb5_1', crb5_1', rfl, _⟩ := hrb5.dec.parts; clear hrb5; have Rb5_0 := Lib.hid (NetX.below Ra5_0.out hbe5 (Nat.le_refl _)); have hse5 := hbe5.size; clear Ra5_0 hbe5; have kb5_0 := (hbb5.cell (p := ⟨w.heap.size, 0, none⟩) (by show w.heap.size < w4.heap.size; omega)).trans kc0_0; have kb5_1 := (hbb5.cell (p := ⟨w.heap.size, 1, none⟩) (by show w.heap.size < w4.heap.size; omega)).trans kc0_1; have kb5_2 := (hbb5.cell (p := ⟨w.heap.size, 2, none⟩) (by show w.heap.size < w4.heap.size; omega)).trans kc0_2; have kb5_3 := (hbb5.cell (p := ⟨(w.heap.size + 1), 0, none⟩) (by show (w.heap.size + 1) < w4.heap.size; omega)).trans kc1_0; have kb5_4 := (hbb5.cell (p := ⟨(w.heap.size + 1), 1, none⟩) (by show (w.heap.size + 1) < w4.heap.size; omega)).trans kc1_1) | (go_at_call 9; refine (toDecomposition_any _ d1 _ _ _ (Dec.below H1.out hbw4.drew (Nat.le_refl _)) (by show _ ≤ w4.heap.size; omega) (by omega)).mono ?_; rintro e wa5 ⟨ra5_1, rfl, hra5, hbd5⟩; have hba5 : Below w4.heap.size w4 wa5 := (Below.refl _ _).drew.trans hbd5; clear hbd5; have Ra5_1 := Lib.hid hra5; obtain ⟨Ara5_1, cra5_1, Ara5_1', cra5_1', rfl, _⟩ := hra5.dec.parts; clear hra5; have hsa5 := hba5.size; have ka5_0 := (hba5.cell (p := ⟨w.heap.size, 0, none⟩) (by show w.heap.size < w4.heap.size; omega)).trans kc0_0; have ka5_1 := (hba5.cell (p := ⟨w.heap.size, 1, none⟩) (by show w.heap.size < w4.heap.size; omega)).trans kc0_1; have ka5_2 := (hba5.cell (p := ⟨w.heap.size, 2, none⟩) (by show w.heap.size < w4.heap.size; omega)).trans kc0_2; have ka5_3 := (hba5.cell (p := ⟨(w.heap.size + 1), 0, none⟩) (by show (w.heap.size + 1) < w4.heap.size; omega)).trans kc1_0; have ka5_4 := (hba5.cell (p := ⟨(w.heap.size + 1), 1, none⟩) (by show (w.heap.size + 1) < w4.heap.size; omega)).trans kc1_1) | (go_at_call 7; refine (IndependentByClusters_spec _ d0 _ _ _ d1 _ _ _ Rb5_0.out.net (by omega) Rb5_1.out.dec (by omega) (by omega) (by omega) I0.out I1.out).mono ?_; rintro e w5 ⟨r5_0, rfl, hr5_0, hbr5⟩; have hbz5 : Below w4.heap.size w4 w5 := hbb5.trans (hbr5.mono hbb5.size); have hsb5 := hbb5.size; have hsf5 := hbr5.size; clear hbr5; have R5_0 := Lib.hid hr5_0; obtain ⟨Ar5_0, cr5_0, rfl⟩ := hr5_0.shape; clear hr5_0; have kd5_0 := (hbz5.cell (p := ⟨w.heap.size, 0, none⟩) (by show w.heap.size < w4.heap.size; omega)).trans kc0_0; have kd5_1 := (hbz5.cell (p := ⟨w.heap.size, 1, none⟩) (by show w.heap.size < w4.heap.size; omega)).trans kc0_1; have kd5_2 := (hbz5.cell (p := ⟨w.heap.size, 2, none⟩) (by show w.heap.size < w4.heap.size; omega)).trans kc0_2; have kd5_3 := (hbz5.cell (p := ⟨(w.heap.size + 1), 0, none⟩) (by show (w.heap.size + 1) < w4.heap.size; omega)).trans kc1_0; have kd5_4 := (hbz5.cell (p := ⟨(w.heap.size + 1), 1, none⟩) (by show (w.heap.size + 1) < w4.heap.size; omega)).trans kc1_1))
    all_goals
      clear kc0_0 kc0_1 kc0_2 kc1_0 kc1_1 hq5 ka5_0 ka5_1 ka5_2 ka5_3 ka5_4 kb5_0 kb5_1 kb5_2 kb5_3 kb5_4 kd5_0 kd5_1 kd5_2 kd5_3 kd5_4 Rb5_0 Rb5_1 hba5 hbb5
      have hs5 := hbz5.size
      have hbw5 := hbw4.trans (hbz5.mono (by omega))
      clear hbw4
      have BX1_5 := BX1_4.below hbz5 (by omega); clear BX1_4
      have BX2_5 := BX2_4.below hbz5 (by omega); clear BX2_4
      obtain ⟨kc0_0, kc0_1, kc0_2⟩ := BX1_5.cells
      obtain ⟨kc1_0, kc1_1⟩ := BX2_5.cells
      go_wp2_with fail
      clear kc0_0 kc0_1 kc0_2 kc1_0 kc1_1
      refine (toNetwork_any _ d0 _ _ _ (Net.below H0.out hbw5 (Nat.le_refl _)) (by omega) (by omega)).mono ?_
      rintro e w6 ⟨r6, rfl, hr6, hb6⟩
      have hs6 := hb6.size
      have hbw6 := hbw5.trans (hb6.mono (by omega))
      clear hbw5
      have R5_0_6 := Lib.hid (IntS.below R5_0.out hb6 (by omega)); clear R5_0
      have BX1_6 := BX1_5.below hb6 (by omega); clear BX1_5
      have BX2_6 := BX2_5.below hb6 (by omega); clear BX2_5
      have R6 := Lib.hid hr6
      obtain ⟨Ar6, cr6, Ar6', cr6', Ar6'', cr6'', rfl, _⟩ := hr6.net.parts
      clear hr6
      obtain ⟨w7, HW7⟩ : ∃ W, Hid (W = w6.alloc (.cells #[.slice Ar6 d0.ends.length cr6, .slice Ar6' d0.ids.length cr6', .slice Ar6'' d0.inputs.length cr6''] 34)) := ⟨_, Lib.hid rfl⟩
      have hb7 : Below w6.heap.size w6 w7 := by rw [HW7.out]; exact below_a1 _ _
      have hz7 : w6.heap.size + 1 ≤ w7.heap.size := by rw [HW7.out]; simp
      have hs7 := hb7.size
      have hbw7 := hbw6.trans (hb7.mono (by omega))
      clear hbw6
      have R5_0_7 := Lib.hid (IntS.below R5_0_6.out hb7 (by omega)); clear R5_0_6
      have R6_7 := Lib.hid (NetX.below R6.out hb7 (by omega)); clear R6
      have BX1_7 := BX1_6.below hb7 (by omega); clear BX1_6
      have BX2_7 := BX2_6.below hb7 (by omega); clear BX2_6
      have BX7 : Box3 w7 w6.heap.size 34 (.slice Ar6 d0.ends.length cr6) (.slice Ar6' d0.ids.length cr6') (.slice Ar6'' d0.inputs.length cr6'') := by rw [HW7.out]; exact Box3.new _ _ _ _ _
      obtain ⟨kc0_0, kc0_1, kc0_2⟩ := BX1_7.cells
      obtain ⟨kc1_0, kc1_1⟩ := BX2_7.cells
      obtain ⟨kc2_0, kc2_1, kc2_2⟩ := BX7.cells
      have kc0_0p := kc0_0; rw [HW7.out] at kc0_0p
      have kc0_1p := kc0_1; rw [HW7.out] at kc0_1p
      have kc0_2p := kc0_2; rw [HW7.out] at kc0_2p
      have kc1_0p := kc1_0; rw [HW7.out] at kc1_0p
      have kc1_1p := kc1_1; rw [HW7.out] at kc1_1p
      have kc2_0p := kc2_0; rw [HW7.out] at kc2_0p
      have kc2_1p := kc2_1; rw [HW7.out] at kc2_1p
      have kc2_2p := kc2_2; rw [HW7.out] at kc2_2p
      go_wp2_with fail
      rw [← HW7.out]; clear HW7
      clear kc0_0 kc0_1 kc0_2 kc1_0 kc1_1 kc2_0 kc2_1 kc2_2 kc0_0p kc0_1p kc0_2p kc1_0p kc1_1p kc2_0p kc2_1p kc2_2p
      refine (toDecomposition_any _ d1 _ _ _ (Dec.below H1.out hbw7 (Nat.le_refl _)) (by omega) (by omega)).mono ?_
      rintro e w8 ⟨r8, rfl, hr8, hb8⟩
      have hs8 := hb8.size
      have hbw8 := hbw7.trans (hb8.mono (by omega))
      clear hbw7
      have R5_0_8 := Lib.hid (IntS.below R5_0_7.out hb8 (by omega)); clear R5_0_7
      have R6_8 := Lib.hid (NetX.below R6_7.out hb8 (by omega)); clear R6_7
      have BX1_8 := BX1_7.below hb8 (by omega); clear BX1_7
      have BX2_8 := BX2_7.below hb8 (by omega); clear BX2_7
      have BX7_8 := BX7.below hb8 (by omega); clear BX7
      have R8 := Lib.hid hr8
      obtain ⟨Ar8, cr8, Ar8', cr8', rfl, _⟩ := hr8.dec.parts
      clear hr8
      obtain ⟨w9, HW9⟩ : ∃ W, Hid (W = w8.alloc (.cells #[.slice Ar8 d1.cluster.length cr8, .slice Ar8' d1.colour.length cr8'] 36)) := ⟨_, Lib.hid rfl⟩
      have hb9 : Below w8.heap.size w8 w9 := by rw [HW9.out]; exact below_a1 _ _
      have hz9 : w8.heap.size + 1 ≤ w9.heap.size := by rw [HW9.out]; simp
      have hs9 := hb9.size
      have hbw9 := hbw8.trans (hb9.mono (by omega))
      clear hbw8
      have R5_0_9 := Lib.hid (IntS.below R5_0_8.out hb9 (by omega)); clear R5_0_8
      have R6_9 := Lib.hid (NetX.below R6_8.out hb9 (by omega)); clear R6_8
      have R8_9 := Lib.hid (DecX.below R8.out hb9 (by omega)); clear R8
      have BX1_9 := BX1_8.below hb9 (by omega); clear BX1_8
      have BX2_9 := BX2_8.below hb9 (by omega); clear BX2_8
      have BX7_9 := BX7_8.below hb9 (by omega); clear BX7_8
      have BX9 : Box2 w9 w8.heap.size 36 (.slice Ar8 d1.cluster.length cr8) (.slice Ar8' d1.colour.length cr8') := by rw [HW9.out]; exact Box2.new _ _ _ _
      obtain ⟨kc0_0, kc0_1, kc0_2⟩ := BX1_9.cells
      obtain ⟨kc1_0, kc1_1⟩ := BX2_9.cells
      obtain ⟨kc2_0, kc2_1, kc2_2⟩ := BX7_9.cells
      obtain ⟨kc3_0, kc3_1⟩ := BX9.cells
      have kc0_0p := kc0_0; rw [HW9.out] at kc0_0p
      have kc0_1p := kc0_1; rw [HW9.out] at kc0_1p
      have kc0_2p := kc0_2; rw [HW9.out] at kc0_2p
      have kc1_0p := kc1_0; rw [HW9.out] at kc1_0p
      have kc1_1p := kc1_1; rw [HW9.out] at kc1_1p
      have kc2_0p := kc2_0; rw [HW9.out] at kc2_0p
      have kc2_1p := kc2_1; rw [HW9.out] at kc2_1p
      have kc2_2p := kc2_2; rw [HW9.out] at kc2_2p
      have kc3_0p := kc3_0; rw [HW9.out] at kc3_0p
      have kc3_1p := kc3_1; rw [HW9.out] at kc3_1p
      go_wp2_with fail
      rw [← HW9.out]; clear HW9
      clear kc0_0 kc0_1 kc0_2 kc1_0 kc1_1 kc2_0 kc2_1 kc2_2 kc3_0 kc3_1 kc0_0p kc0_1p kc0_2p kc1_0p kc1_1p kc2_0p kc2_1p kc2_2p kc3_0p kc3_1p
      refine (IndependentByClusters_impl _ d0 _ _ _ d1 _ _ _ R6_9.out.net (by omega) R8_9.out.dec (by omega) (by omega) (by omega) I0.out I1.out).mono ?_
      rintro e w10 ⟨r10_0, rfl, hr10_0, hb10⟩
      have hs10 := hb10.size
      have hbw10 := hbw9.trans (hb10.mono (by omega))
      clear hbw9
      have R5_0_10 := Lib.hid (IntS.below R5_0_9.out hb10 (by omega)); clear R5_0_9
      have R6_10 := Lib.hid (NetX.below R6_9.out hb10 (by omega)); clear R6_9
      have R8_10 := Lib.hid (DecX.below R8_9.out hb10 (by omega)); clear R8_9
      have BX1_10 := BX1_9.below hb10 (by omega); clear BX1_9
      have BX2_10 := BX2_9.below hb10 (by omega); clear BX2_9
      have BX7_10 := BX7_9.below hb10 (by omega); clear BX7_9
      have BX9_10 := BX9.below hb10 (by omega); clear BX9
      have R10_0 := Lib.hid hr10_0
      obtain ⟨Ar10_0, cr10_0, rfl⟩ := hr10_0.shape
      clear hr10_0
      obtain ⟨kc0_0, kc0_1, kc0_2⟩ := BX1_10.cells
      obtain ⟨kc1_0, kc1_1⟩ := BX2_10.cells
      obtain ⟨kc2_0, kc2_1, kc2_2⟩ := BX7_10.cells
      obtain ⟨kc3_0, kc3_1⟩ := BX9_10.cells
      go_wp2_with fail
      clear kc0_0 kc0_1 kc0_2 kc1_0 kc1_1 kc2_0 kc2_1 kc2_2 kc3_0 kc3_1
      refine (eqIntS_same _ _ (ibOut d0 d1) _ _ _ _ _ R10_0.out R5_0_10.out (by omega) (by omega)).mono ?_
      rintro e w11 ⟨rfl, hb11⟩
      have hs11 := hb11.size
      have hbw11 := hbw10.trans (hb11.mono (by omega))
      clear hbw10
      have R5_0_11 := Lib.hid (IntS.below R5_0_10.out hb11 (by omega)); clear R5_0_10
      have R6_11 := Lib.hid (NetX.below R6_10.out hb11 (by omega)); clear R6_10
      have R8_11 := Lib.hid (DecX.below R8_10.out hb11 (by omega)); clear R8_10
      have R10_0_11 := Lib.hid (IntS.below R10_0.out hb11 (by omega)); clear R10_0
      have BX1_11 := BX1_10.below hb11 (by omega); clear BX1_10
      have BX2_11 := BX2_10.below hb11 (by omega); clear BX2_10
      have BX7_11 := BX7_10.below hb11 (by omega); clear BX7_10
      have BX9_11 := BX9_10.below hb11 (by omega); clear BX9_10
      obtain ⟨kc0_0, kc0_1, kc0_2⟩ := BX1_11.cells
      obtain ⟨kc1_0, kc1_1⟩ := BX2_11.cells
      obtain ⟨kc2_0, kc2_1, kc2_2⟩ := BX7_11.cells
      obtain ⟨kc3_0, kc3_1⟩ := BX9_11.cells
      go_wp2_with fail
      have hq12 : w11.heap.size ≤ w11.heap.size := Nat.le_refl _
      go_region_held3 (fun w' => w'.cell? ⟨w.heap.size, 0, none⟩ = some (.slice A0 d0.ends.length c0) ∧ w'.cell? ⟨w.heap.size, 1, none⟩ = some (.slice A0' d0.ids.length c0') ∧ w'.cell? ⟨w.heap.size, 2, none⟩ = some (.slice A0'' d0.inputs.length c0'') ∧ w'.cell? ⟨(w.heap.size + 1), 0, none⟩ = some (.slice A1 d1.cluster.length c1) ∧ w'.cell? ⟨(w.heap.size + 1), 1, none⟩ = some (.slice A1' d1.colour.length c1') ∧ w'.cell? ⟨w6.heap.size, 0, none⟩ = some (.slice Ar6 d0.ends.length cr6) ∧ w'.cell? ⟨w6.heap.size, 1, none⟩ = some (.slice Ar6' d0.ids.length cr6') ∧ w'.cell? ⟨w6.heap.size, 2, none⟩ = some (.slice Ar6'' d0.inputs.length cr6'') ∧ w'.cell? ⟨w8.heap.size, 0, none⟩ = some (.slice Ar8 d1.cluster.length cr8) ∧ w'.cell? ⟨w8.heap.size, 1, none⟩ = some (.slice Ar8' d1.colour.length cr8'))
        (first | exact ⟨kc0_0, kc0_1, kc0_2, kc1_0, kc1_1, kc2_0, kc2_1, kc2_2, kc3_0, kc3_1⟩ | exact ⟨(hb12.cell (p := ⟨w.heap.size, 0, none⟩) (by show w.heap.size < w11.heap.size; omega)).trans kc0_0, (hb12.cell (p := ⟨w.heap.size, 1, none⟩) (by show w.heap.size < w11.heap.size; omega)).trans kc0_1, (hb12.cell (p := ⟨w.heap.size, 2, none⟩) (by show w.heap.size < w11.heap.size; omega)).trans kc0_2, (hb12.cell (p := ⟨(w.heap.size + 1), 0, none⟩) (by show (w.heap.size + 1) < w11.heap.size; omega)).trans kc1_0, (hb12.cell (p := ⟨(w.heap.size + 1), 1, none⟩) (by show (w.heap.size + 1) < w11.heap.size; omega)).trans kc1_1, (hb12.cell (p := ⟨w6.heap.size, 0, none⟩) (by show w6.heap.size < w11.heap.size; omega)).trans kc2_0, (hb12.cell (p := ⟨w6.heap.size, 1, none⟩) (by show w6.heap.size < w11.heap.size; omega)).trans kc2_1, (hb12.cell (p := ⟨w6.heap.size, 2, none⟩) (by show w6.heap.size < w11.heap.size; omega)).trans kc2_2, (hb12.cell (p := ⟨w8.heap.size, 0, none⟩) (by show w8.heap.size < w11.heap.size; omega)).trans kc3_0, (hb12.cell (p := ⟨w8.heap.size, 1, none⟩) (by show w8.heap.size < w11.heap.size; omega)).trans kc3_1⟩ | exact ⟨kq12_0, kq12_1, kq12_2, kq12_3, kq12_4, kq12_5, kq12_6, kq12_7, kq12_8, kq12_9⟩)
        (first | (go_at_call 8; refine (toNetwork_any _ d0 _ _ _ (Net.below H0.out hbw11.drew (Nat.le_refl _)) (by show _ ≤ w11.heap.size; omega) (by omega)).mono ?_; rintro e w12 ⟨r12, rfl, hr12, hbd12⟩; have hb12 : Below w11.heap.size w11 w12 := (Below.refl _ _).drew.trans hbd12; clear hbd12; have R12 := Lib.hid hr12; obtain ⟨Ar12, cr12, Ar12', cr12', Ar12'', cr12'', rfl, _⟩ := hr12.net.parts; clear hr12) | (go_at_call 12; refine (eqNetwork_same _ _ d0 _ _ _ _ _ (Net.below (R6_11.out.net) hb12 (by show _ ≤ w11.heap.size; omega)) (R12.out.net) (by have := hb12.size; show _ ≤ w12.heap.size; exact Nat.le_trans (by show _ ≤ w11.heap.size; omega) this) (Nat.le_refl _)).mono ?_; rintro e wq12 ⟨rfl, hbq12⟩; have kq12_0 := (hbq12.cell (p := ⟨w.heap.size, 0, none⟩) (by have := hb12.size; show w.heap.size < w12.heap.size; exact Nat.lt_of_lt_of_le (by show w.heap.size < w11.heap.size; omega) this)).trans ((hb12.cell (p := ⟨w.heap.size, 0, none⟩) (by show w.heap.size < w11.heap.size; omega)).trans kc0_0); have kq12_1 := (hbq12.cell (p := ⟨w.heap.size, 1, none⟩) (by have := hb12.size; show w.heap.size < w12.heap.size; exact Nat.lt_of_lt_of_le (by show w.heap.size < w11.heap.size; omega) this)).trans ((hb12.cell (p := ⟨w.heap.size, 1, none⟩) (by show w.heap.size < w11.heap.size; omega)).trans kc0_1); have kq12_2 := (hbq12.cell (p := ⟨w.heap.size, 2, none⟩) (by have := hb12.size; show w.heap.size < w12.heap.size; exact Nat.lt_of_lt_of_le (by show w.heap.size < w11.heap.size; omega) this)).trans ((hb12.cell (p := ⟨w.heap.size, 2, none⟩) (by show w.heap.size < w11.heap.size; omega)).trans kc0_2); have kq12_3 := (hbq12.cell (p := ⟨(w.heap.size + 1), 0, none⟩) (by have := hb12.size; show (w.heap.size + 1) < w12.heap.size; exact Nat.lt_of_lt_of_le (by show (w.heap.size + 1) < w11.heap.size; omega) this)).trans ((hb12.cell (p := ⟨(w.heap.size + 1), 0, none⟩) (by show (w.heap.size + 1) < w11.heap.size; omega)).trans kc1_0); have kq12_4 := (hbq12.cell (p := ⟨(w.heap.size + 1), 1, none⟩) (by have := hb12.size; show (w.heap.size + 1) < w12.heap.size; exact Nat.lt_of_lt_of_le (by show (w.heap.size + 1) < w11.heap.size; omega) this)).trans ((hb12.cell (p := ⟨(w.heap.size + 1), 1, none⟩) (by show (w.heap.size + 1) < w11.heap.size; omega)).trans kc1_1); have kq12_5 := (hbq12.cell (p := ⟨w6.heap.size, 0, none⟩) (by have := hb12.size; show w6.heap.size < w12.heap.size; exact Nat.lt_of_lt_of_le (by show w6.heap.size < w11.heap.size; omega) this)).trans ((hb12.cell (p := ⟨w6.heap.size, 0, none⟩) (by show w6.heap.size < w11.heap.size; omega)).trans kc2_0); have kq12_6 := (hbq12.cell (p := ⟨w6.heap.size, 1, none⟩) (by have := hb12.size; show w6.heap.size < w12.heap.size; exact Nat.lt_of_lt_of_le (by show w6.heap.size < w11.heap.size; omega) this)).trans ((hb12.cell (p := ⟨w6.heap.size, 1, none⟩) (by show w6.heap.size < w11.heap.size; omega)).trans kc2_1); have kq12_7 := (hbq12.cell (p := ⟨w6.heap.size, 2, none⟩) (by have := hb12.size; show w6.heap.size < w12.heap.size; exact Nat.lt_of_lt_of_le (by show w6.heap.size < w11.heap.size; omega) this)).trans ((hb12.cell (p := ⟨w6.heap.size, 2, none⟩) (by show w6.heap.size < w11.heap.size; omega)).trans kc2_2); have kq12_8 := (hbq12.cell (p := ⟨w8.heap.size, 0, none⟩) (by have := hb12.size; show w8.heap.size < w12.heap.size; exact Nat.lt_of_lt_of_le (by show w8.heap.size < w11.heap.size; omega) this)).trans ((hb12.cell (p := ⟨w8.heap.size, 0, none⟩) (by show w8.heap.size < w11.heap.size; omega)).trans kc3_0); have kq12_9 := (hbq12.cell (p := ⟨w8.heap.size, 1, none⟩) (by have := hb12.size; show w8.heap.size < w12.heap.size; exact Nat.lt_of_lt_of_le (by show w8.heap.size < w11.heap.size; omega) this)).trans ((hb12.cell (p := ⟨w8.heap.size, 1, none⟩) (by show w8.heap.size < w11.heap.size; omega)).trans kc3_1)))
      clear kc0_0 kc0_1 kc0_2 kc1_0 kc1_1 kc2_0 kc2_1 kc2_2 kc3_0 kc3_1 hq12 kq12_0 kq12_1 kq12_2 kq12_3 kq12_4 kq12_5 kq12_6 kq12_7 kq12_8 kq12_9
      clear R12
      have hbz12 : Below w11.heap.size w11 wq12 := Below.trans hb12 (hbq12.mono hb12.size)
      clear hb12 hbq12
      have hs12 := hbz12.size
      have hbw12 := hbw11.trans (hbz12.mono (by omega))
      clear hbw11
      have R5_0_12 := Lib.hid (IntS.below R5_0_11.out hbz12 (by omega)); clear R5_0_11
      have R6_12 := Lib.hid (NetX.below R6_11.out hbz12 (by omega)); clear R6_11
      have R8_12 := Lib.hid (DecX.below R8_11.out hbz12 (by omega)); clear R8_11
      have R10_0_12 := Lib.hid (IntS.below R10_0_11.out hbz12 (by omega)); clear R10_0_11
      have BX1_12 := BX1_11.below hbz12 (by omega); clear BX1_11
      have BX2_12 := BX2_11.below hbz12 (by omega); clear BX2_11
      have BX7_12 := BX7_11.below hbz12 (by omega); clear BX7_11
      have BX9_12 := BX9_11.below hbz12 (by omega); clear BX9_11
      obtain ⟨kc0_0, kc0_1, kc0_2⟩ := BX1_12.cells
      obtain ⟨kc1_0, kc1_1⟩ := BX2_12.cells
      obtain ⟨kc2_0, kc2_1, kc2_2⟩ := BX7_12.cells
      obtain ⟨kc3_0, kc3_1⟩ := BX9_12.cells
      go_wp2_with fail
      have hq13 : wq12.heap.size ≤ wq12.heap.size := Nat.le_refl _
      go_region_held3 (fun w' => w'.cell? ⟨w.heap.size, 0, none⟩ = some (.slice A0 d0.ends.length c0) ∧ w'.cell? ⟨w.heap.size, 1, none⟩ = some (.slice A0' d0.ids.length c0') ∧ w'.cell? ⟨w.heap.size, 2, none⟩ = some (.slice A0'' d0.inputs.length c0'') ∧ w'.cell? ⟨(w.heap.size + 1), 0, none⟩ = some (.slice A1 d1.cluster.length c1) ∧ w'.cell? ⟨(w.heap.size + 1), 1, none⟩ = some (.slice A1' d1.colour.length c1') ∧ w'.cell? ⟨w6.heap.size, 0, none⟩ = some (.slice Ar6 d0.ends.length cr6) ∧ w'.cell? ⟨w6.heap.size, 1, none⟩ = some (.slice Ar6' d0.ids.length cr6') ∧ w'.cell? ⟨w6.heap.size, 2, none⟩ = some (.slice Ar6'' d0.inputs.length cr6'') ∧ w'.cell? ⟨w8.heap.size, 0, none⟩ = some (.slice Ar8 d1.cluster.length cr8) ∧ w'.cell? ⟨w8.heap.size, 1, none⟩ = some (.slice Ar8' d1.colour.length cr8'))
        (first | exact ⟨kc0_0, kc0_1, kc0_2, kc1_0, kc1_1, kc2_0, kc2_1, kc2_2, kc3_0, kc3_1⟩ | exact ⟨(hb13.cell (p := ⟨w.heap.size, 0, none⟩) (by show w.heap.size < wq12.heap.size; omega)).trans kc0_0, (hb13.cell (p := ⟨w.heap.size, 1, none⟩) (by show w.heap.size < wq12.heap.size; omega)).trans kc0_1, (hb13.cell (p := ⟨w.heap.size, 2, none⟩) (by show w.heap.size < wq12.heap.size; omega)).trans kc0_2, (hb13.cell (p := ⟨(w.heap.size + 1), 0, none⟩) (by show (w.heap.size + 1) < wq12.heap.size; omega)).trans kc1_0, (hb13.cell (p := ⟨(w.heap.size + 1), 1, none⟩) (by show (w.heap.size + 1) < wq12.heap.size; omega)).trans kc1_1, (hb13.cell (p := ⟨w6.heap.size, 0, none⟩) (by show w6.heap.size < wq12.heap.size; omega)).trans kc2_0, (hb13.cell (p := ⟨w6.heap.size, 1, none⟩) (by show w6.heap.size < wq12.heap.size; omega)).trans kc2_1, (hb13.cell (p := ⟨w6.heap.size, 2, none⟩) (by show w6.heap.size < wq12.heap.size; omega)).trans kc2_2, (hb13.cell (p := ⟨w8.heap.size, 0, none⟩) (by show w8.heap.size < wq12.heap.size; omega)).trans kc3_0, (hb13.cell (p := ⟨w8.heap.size, 1, none⟩) (by show w8.heap.size < wq12.heap.size; omega)).trans kc3_1⟩ | exact ⟨kq13_0, kq13_1, kq13_2, kq13_3, kq13_4, kq13_5, kq13_6, kq13_7, kq13_8, kq13_9⟩)
        (first | (go_at_call 9; refine (toDecomposition_any _ d1 _ _ _ (Dec.below H1.out hbw12.drew (Nat.le_refl _)) (by show _ ≤ wq12.heap.size; omega) (by omega)).mono ?_; rintro e w13 ⟨r13, rfl, hr13, hbd13⟩; have hb13 : Below wq12.heap.size wq12 w13 := (Below.refl _ _).drew.trans hbd13; clear hbd13; have R13 := Lib.hid hr13; obtain ⟨Ar13, cr13, Ar13', cr13', rfl, _⟩ := hr13.dec.parts; clear hr13) | (go_at_call 13; refine (eqDecomposition_same _ _ d1 _ _ _ _ _ (Dec.below (R8_12.out.dec) hb13 (by show _ ≤ wq12.heap.size; omega)) (R13.out.dec) (by have := hb13.size; show _ ≤ w13.heap.size; exact Nat.le_trans (by show _ ≤ wq12.heap.size; omega) this) (Nat.le_refl _)).mono ?_; rintro e wq13 ⟨rfl, hbq13⟩; have kq13_0 := (hbq13.cell (p := ⟨w.heap.size, 0, none⟩) (by have := hb13.size; show w.heap.size < w13.heap.size; exact Nat.lt_of_lt_of_le (by show w.heap.size < wq12.heap.size; omega) this)).trans ((hb13.cell (p := ⟨w.heap.size, 0, none⟩) (by show w.heap.size < wq12.heap.size; omega)).trans kc0_0); have kq13_1 := (hbq13.cell (p := ⟨w.heap.size, 1, none⟩) (by have := hb13.size; show w.heap.size < w13.heap.size; exact Nat.lt_of_lt_of_le (by show w.heap.size < wq12.heap.size; omega) this)).trans ((hb13.cell (p := ⟨w.heap.size, 1, none⟩) (by show w.heap.size < wq12.heap.size; omega)).trans kc0_1); have kq13_2 := (hbq13.cell (p := ⟨w.heap.size, 2, none⟩) (by have := hb13.size; show w.heap.size < w13.heap.size; exact Nat.lt_of_lt_of_le (by show w.heap.size < wq12.heap.size; omega) this)).trans ((hb13.cell (p := ⟨w.heap.size, 2, none⟩) (by show w.heap.size < wq12.heap.size; omega)).trans kc0_2); have kq13_3 := (hbq13.cell (p := ⟨(w.heap.size + 1), 0, none⟩) (by have := hb13.size; show (w.heap.size + 1) < w13.heap.size; exact Nat.lt_of_lt_of_le (by show (w.heap.size + 1) < wq12.heap.size; omega) this)).trans ((hb13.cell (p := ⟨(w.heap.size + 1), 0, none⟩) (by show (w.heap.size + 1) < wq12.heap.size; omega)).trans kc1_0); have kq13_4 := (hbq13.cell (p := ⟨(w.heap.size + 1), 1, none⟩) (by have := hb13.size; show (w.heap.size + 1) < w13.heap.size; exact Nat.lt_of_lt_of_le (by show (w.heap.size + 1) < wq12.heap.size; omega) this)).trans ((hb13.cell (p := ⟨(w.heap.size + 1), 1, none⟩) (by show (w.heap.size + 1) < wq12.heap.size; omega)).trans kc1_1); have kq13_5 := (hbq13.cell (p := ⟨w6.heap.size, 0, none⟩) (by have := hb13.size; show w6.heap.size < w13.heap.size; exact Nat.lt_of_lt_of_le (by show w6.heap.size < wq12.heap.size; omega) this)).trans ((hb13.cell (p := ⟨w6.heap.size, 0, none⟩) (by show w6.heap.size < wq12.heap.size; omega)).trans kc2_0); have kq13_6 := (hbq13.cell (p := ⟨w6.heap.size, 1, none⟩) (by have := hb13.size; show w6.heap.size < w13.heap.size; exact Nat.lt_of_lt_of_le (by show w6.heap.size < wq12.heap.size; omega) this)).trans ((hb13.cell (p := ⟨w6.heap.size, 1, none⟩) (by show w6.heap.size < wq12.heap.size; omega)).trans kc2_1); have kq13_7 := (hbq13.cell (p := ⟨w6.heap.size, 2, none⟩) (by have := hb13.size; show w6.heap.size < w13.heap.size; exact Nat.lt_of_lt_of_le (by show w6.heap.size < wq12.heap.size; omega) this)).trans ((hb13.cell (p := ⟨w6.heap.size, 2, none⟩) (by show w6.heap.size < wq12.heap.size; omega)).trans kc2_2); have kq13_8 := (hbq13.cell (p := ⟨w8.heap.size, 0, none⟩) (by have := hb13.size; show w8.heap.size < w13.heap.size; exact Nat.lt_of_lt_of_le (by show w8.heap.size < wq12.heap.size; omega) this)).trans ((hb13.cell (p := ⟨w8.heap.size, 0, none⟩) (by show w8.heap.size < wq12.heap.size; omega)).trans kc3_0); have kq13_9 := (hbq13.cell (p := ⟨w8.heap.size, 1, none⟩) (by have := hb13.size; show w8.heap.size < w13.heap.size; exact Nat.lt_of_lt_of_le (by show w8.heap.size < wq12.heap.size; omega) this)).trans ((hb13.cell (p := ⟨w8.heap.size, 1, none⟩) (by show w8.heap.size < wq12.heap.size; omega)).trans kc3_1)))
      clear kc0_0 kc0_1 kc0_2 kc1_0 kc1_1 kc2_0 kc2_1 kc2_2 kc3_0 kc3_1 hq13 kq13_0 kq13_1 kq13_2 kq13_3 kq13_4 kq13_5 kq13_6 kq13_7 kq13_8 kq13_9
      clear R13
      have hbz13 : Below wq12.heap.size wq12 wq13 := Below.trans hb13 (hbq13.mono hb13.size)
      clear hb13 hbq13
      have hs13 := hbz13.size
      have hbw13 := hbw12.trans (hbz13.mono (by omega))
      clear hbw12
      have R5_0_13 := Lib.hid (IntS.below R5_0_12.out hbz13 (by omega)); clear R5_0_12
      have R6_13 := Lib.hid (NetX.below R6_12.out hbz13 (by omega)); clear R6_12
      have R8_13 := Lib.hid (DecX.below R8_12.out hbz13 (by omega)); clear R8_12
      have R10_0_13 := Lib.hid (IntS.below R10_0_12.out hbz13 (by omega)); clear R10_0_12
      have BX1_13 := BX1_12.below hbz13 (by omega); clear BX1_12
      have BX2_13 := BX2_12.below hbz13 (by omega); clear BX2_12
      have BX7_13 := BX7_12.below hbz13 (by omega); clear BX7_12
      have BX9_13 := BX9_12.below hbz13 (by omega); clear BX9_12
      obtain ⟨kc0_0, kc0_1, kc0_2⟩ := BX1_13.cells
      obtain ⟨kc1_0, kc1_1⟩ := BX2_13.cells
      obtain ⟨kc2_0, kc2_1, kc2_2⟩ := BX7_13.cells
      obtain ⟨kc3_0, kc3_1⟩ := BX9_13.cells
      go_wp2_with fail
      clear kc0_0 kc0_1 kc0_2 kc1_0 kc1_1 kc2_0 kc2_1 kc2_2 kc3_0 kc3_1
      refine (markNetwork_any _ d0 _ _ _ _ R6_13.out (by omega) (by omega) (by omega) (by omega)).mono ?_
      rintro e w14 ⟨rfl, hr14, ht14⟩
      have hs14 := ht14.size
      have hbw14 := hbw13.trans ((ht14.below (by omega)).mono (by omega))
      clear hbw13
      have R5_0_14 := Lib.hid (IntS.turned R5_0_13.out ht14 (by omega) (by omega)); clear R5_0_13
      have R8_14 := Lib.hid (DecX.turned R8_13.out ht14 (by omega) (by omega)); clear R8_13
      have R10_0_14 := Lib.hid (IntS.turned R10_0_13.out ht14 (by omega) (by omega)); clear R10_0_13
      have BX1_14 : Box3 w14 w.heap.size 25 (.slice A0 d0.ends.length c0) (.slice A0' d0.ids.length c0') (.slice A0'' d0.inputs.length c0'') := (ht14.block _ (by omega) (by omega)).trans BX1_13; clear BX1_13
      have BX2_14 : Box2 w14 (w.heap.size + 1) 27 (.slice A1 d1.cluster.length c1) (.slice A1' d1.colour.length c1') := (ht14.block _ (by omega) (by omega)).trans BX2_13; clear BX2_13
      have BX7_14 : Box3 w14 w6.heap.size 34 (.slice Ar6 d0.ends.length cr6) (.slice Ar6' d0.ids.length cr6') (.slice Ar6'' d0.inputs.length cr6'') := (ht14.block _ (by omega) (by omega)).trans BX7_13; clear BX7_13
      have BX9_14 : Box2 w14 w8.heap.size 36 (.slice Ar8 d1.cluster.length cr8) (.slice Ar8' d1.colour.length cr8') := (ht14.block _ (by omega) (by omega)).trans BX9_13; clear BX9_13
      clear R6_13
      have R6_14 := Lib.hid hr14; clear hr14
      obtain ⟨kc0_0, kc0_1, kc0_2⟩ := BX1_14.cells
      obtain ⟨kc1_0, kc1_1⟩ := BX2_14.cells
      obtain ⟨kc2_0, kc2_1, kc2_2⟩ := BX7_14.cells
      obtain ⟨kc3_0, kc3_1⟩ := BX9_14.cells
      go_wp2_with fail
      clear kc0_0 kc0_1 kc0_2 kc1_0 kc1_1 kc2_0 kc2_1 kc2_2 kc3_0 kc3_1
      refine (markDecomposition_any _ d1 _ _ _ _ R8_14.out (by omega) (by omega) (by omega) (by omega)).mono ?_
      rintro e w15 ⟨rfl, hr15, ht15⟩
      have hs15 := ht15.size
      have hbw15 := hbw14.trans ((ht15.below (by omega)).mono (by omega))
      clear hbw14
      have R5_0_15 := Lib.hid (IntS.turned R5_0_14.out ht15 (by omega) (by omega)); clear R5_0_14
      have R6_15 := Lib.hid (NetX.turned R6_14.out ht15 (by omega) (by omega)); clear R6_14
      have R10_0_15 := Lib.hid (IntS.turned R10_0_14.out ht15 (by omega) (by omega)); clear R10_0_14
      have BX1_15 : Box3 w15 w.heap.size 25 (.slice A0 d0.ends.length c0) (.slice A0' d0.ids.length c0') (.slice A0'' d0.inputs.length c0'') := (ht15.block _ (by omega) (by omega)).trans BX1_14; clear BX1_14
      have BX2_15 : Box2 w15 (w.heap.size + 1) 27 (.slice A1 d1.cluster.length c1) (.slice A1' d1.colour.length c1') := (ht15.block _ (by omega) (by omega)).trans BX2_14; clear BX2_14
      have BX7_15 : Box3 w15 w6.heap.size 34 (.slice Ar6 d0.ends.length cr6) (.slice Ar6' d0.ids.length cr6') (.slice Ar6'' d0.inputs.length cr6'') := (ht15.block _ (by omega) (by omega)).trans BX7_14; clear BX7_14
      have BX9_15 : Box2 w15 w8.heap.size 36 (.slice Ar8 d1.cluster.length cr8) (.slice Ar8' d1.colour.length cr8') := (ht15.block _ (by omega) (by omega)).trans BX9_14; clear BX9_14
      clear R8_14
      have R8_15 := Lib.hid hr15; clear hr15
      obtain ⟨kc0_0, kc0_1, kc0_2⟩ := BX1_15.cells
      obtain ⟨kc1_0, kc1_1⟩ := BX2_15.cells
      obtain ⟨kc2_0, kc2_1, kc2_2⟩ := BX7_15.cells
      obtain ⟨kc3_0, kc3_1⟩ := BX9_15.cells
      go_wp2_with fail
      clear kc0_0 kc0_1 kc0_2 kc1_0 kc1_1 kc2_0 kc2_1 kc2_2 kc3_0 kc3_1
      refine (eqIntS_same _ _ (ibOut d0 d1) _ _ _ _ _ R10_0_15.out R5_0_15.out (by omega) (by omega)).mono ?_
      rintro e w16 ⟨rfl, hb16⟩
      have hs16 := hb16.size
      have hbw16 := hbw15.trans (hb16.mono (by omega))
      clear hbw15
      have R5_0_16 := Lib.hid (IntS.below R5_0_15.out hb16 (by omega)); clear R5_0_15
      have R6_16 := Lib.hid (NetX.below R6_15.out hb16 (by omega)); clear R6_15
      have R8_16 := Lib.hid (DecX.below R8_15.out hb16 (by omega)); clear R8_15
      have R10_0_16 := Lib.hid (IntS.below R10_0_15.out hb16 (by omega)); clear R10_0_15
      have BX1_16 := BX1_15.below hb16 (by omega); clear BX1_15
      have BX2_16 := BX2_15.below hb16 (by omega); clear BX2_15
      have BX7_16 := BX7_15.below hb16 (by omega); clear BX7_15
      have BX9_16 := BX9_15.below hb16 (by omega); clear BX9_15
      obtain ⟨kc0_0, kc0_1, kc0_2⟩ := BX1_16.cells
      obtain ⟨kc1_0, kc1_1⟩ := BX2_16.cells
      obtain ⟨kc2_0, kc2_1, kc2_2⟩ := BX7_16.cells
      obtain ⟨kc3_0, kc3_1⟩ := BX9_16.cells
      go_wp2_with fail
      clear kc0_0 kc0_1 kc0_2 kc1_0 kc1_1 kc2_0 kc2_1 kc2_2 kc3_0 kc3_1
      refine (markIntS_any _ (ibOut d0 d1) _ _ _ _ R10_0_16.out (by omega) (by omega) (by omega) (by omega)).mono ?_
      rintro e w17 ⟨rfl, hr17, hg17, hzz17⟩
      have ht17 := Turned.of_row R10_0_16.out hg17; clear hg17 hzz17
      have hs17 := ht17.size
      have hbw17 := hbw16.trans ((ht17.below (by omega)).mono (by omega))
      clear hbw16
      have R5_0_17 := Lib.hid (IntS.turned R5_0_16.out ht17 (by omega) (by omega)); clear R5_0_16
      have R6_17 := Lib.hid (NetX.turned R6_16.out ht17 (by omega) (by omega)); clear R6_16
      have R8_17 := Lib.hid (DecX.turned R8_16.out ht17 (by omega) (by omega)); clear R8_16
      have BX1_17 : Box3 w17 w.heap.size 25 (.slice A0 d0.ends.length c0) (.slice A0' d0.ids.length c0') (.slice A0'' d0.inputs.length c0'') := (ht17.block _ (by omega) (by omega)).trans BX1_16; clear BX1_16
      have BX2_17 : Box2 w17 (w.heap.size + 1) 27 (.slice A1 d1.cluster.length c1) (.slice A1' d1.colour.length c1') := (ht17.block _ (by omega) (by omega)).trans BX2_16; clear BX2_16
      have BX7_17 : Box3 w17 w6.heap.size 34 (.slice Ar6 d0.ends.length cr6) (.slice Ar6' d0.ids.length cr6') (.slice Ar6'' d0.inputs.length cr6'') := (ht17.block _ (by omega) (by omega)).trans BX7_16; clear BX7_16
      have BX9_17 : Box2 w17 w8.heap.size 36 (.slice Ar8 d1.cluster.length cr8) (.slice Ar8' d1.colour.length cr8') := (ht17.block _ (by omega) (by omega)).trans BX9_16; clear BX9_16
      clear R10_0_16
      have R10_0_17 := Lib.hid hr17; clear hr17
      obtain ⟨kc0_0, kc0_1, kc0_2⟩ := BX1_17.cells
      obtain ⟨kc1_0, kc1_1⟩ := BX2_17.cells
      obtain ⟨kc2_0, kc2_1, kc2_2⟩ := BX7_17.cells
      obtain ⟨kc3_0, kc3_1⟩ := BX9_17.cells
      go_wp2_with fail
      clear kc0_0 kc0_1 kc0_2 kc1_0 kc1_1 kc2_0 kc2_1 kc2_2 kc3_0 kc3_1
      refine (heldIntS_yes _ (ibOut d0 d1) _ _ _ _ R10_0_17.out (by omega) (by omega) (by omega)).mono ?_
      rintro e w18 ⟨rfl, hb18⟩
      have hs18 := hb18.size
      have hbw18 := hbw17.trans (hb18.mono (by omega))
      clear hbw17
      have R5_0_18 := Lib.hid (IntS.below R5_0_17.out hb18 (by omega)); clear R5_0_17
      have R6_18 := Lib.hid (NetX.below R6_17.out hb18 (by omega)); clear R6_17
      have R8_18 := Lib.hid (DecX.below R8_17.out hb18 (by omega)); clear R8_17
      have R10_0_18 := Lib.hid (IntS.below R10_0_17.out hb18 (by omega)); clear R10_0_17
      have BX1_18 := BX1_17.below hb18 (by omega); clear BX1_17
      have BX2_18 := BX2_17.below hb18 (by omega); clear BX2_17
      have BX7_18 := BX7_17.below hb18 (by omega); clear BX7_17
      have BX9_18 := BX9_17.below hb18 (by omega); clear BX9_17
      obtain ⟨kc0_0, kc0_1, kc0_2⟩ := BX1_18.cells
      obtain ⟨kc1_0, kc1_1⟩ := BX2_18.cells
      obtain ⟨kc2_0, kc2_1, kc2_2⟩ := BX7_18.cells
      obtain ⟨kc3_0, kc3_1⟩ := BX9_18.cells
      go_wp2_with fail
      have hq19 : w18.heap.size ≤ w18.heap.size := Nat.le_refl _
      go_region_held3 (fun w' => w'.cell? ⟨w.heap.size, 0, none⟩ = some (.slice A0 d0.ends.length c0) ∧ w'.cell? ⟨w.heap.size, 1, none⟩ = some (.slice A0' d0.ids.length c0') ∧ w'.cell? ⟨w.heap.size, 2, none⟩ = some (.slice A0'' d0.inputs.length c0'') ∧ w'.cell? ⟨(w.heap.size + 1), 0, none⟩ = some (.slice A1 d1.cluster.length c1) ∧ w'.cell? ⟨(w.heap.size + 1), 1, none⟩ = some (.slice A1' d1.colour.length c1') ∧ w'.cell? ⟨w6.heap.size, 0, none⟩ = some (.slice Ar6 d0.ends.length cr6) ∧ w'.cell? ⟨w6.heap.size, 1, none⟩ = some (.slice Ar6' d0.ids.length cr6') ∧ w'.cell? ⟨w6.heap.size, 2, none⟩ = some (.slice Ar6'' d0.inputs.length cr6'') ∧ w'.cell? ⟨w8.heap.size, 0, none⟩ = some (.slice Ar8 d1.cluster.length cr8) ∧ w'.cell? ⟨w8.heap.size, 1, none⟩ = some (.slice Ar8' d1.colour.length cr8'))
        (first | exact ⟨kc0_0, kc0_1, kc0_2, kc1_0, kc1_1, kc2_0, kc2_1, kc2_2, kc3_0, kc3_1⟩ | exact ⟨ka19_0, ka19_1, ka19_2, ka19_3, ka19_4, ka19_5, ka19_6, ka19_7, ka19_8, ka19_9⟩ | exact ⟨kb19_0, kb19_1, kb19_2, kb19_3, kb19_4, kb19_5, kb19_6, kb19_7, kb19_8, kb19_9⟩ | exact ⟨kd19_0, kd19_1, kd19_2, kd19_3, kd19_4, kd19_5, kd19_6, kd19_7, kd19_8, kd19_9⟩)
        (first | (go_at_call 8; refine (toNetwork_any _ d0 _ _ _ (Net.below H0.out (hbw18.trans (hba19.mono (by omega))) (Nat.le_refl _)) (by have := hba19.size; omega) (by omega)).mono ?_; rintro e wb19 ⟨rb19_0, rfl, hrb19, hbe19⟩; have hbb19 : Below w18.heap.size w18 wb19 := hba19.trans (hbe19.mono hba19.size); have Rb19_0 := Lib.hid hrb19; obtain ⟨Arb19_0, crb19_0, Arb19_0', crb19_0', Arb19_0'', crb19_0'', rfl, _⟩ := hrb19.net.parts; clear hrb19; have Rb19_1 := Lib.hid (DecX.below Ra19_1.out hbe19 (Nat.le_refl _)); have hse19 := hbe19.size; clear Ra19_1 hbe19; have kb19_0 := (hbb19.cell (p := ⟨w.heap.size, 0, none⟩) (by show w.heap.size < w18.heap.size; omega)).trans kc0_0; have kb19_1 := (hbb19.cell (p := ⟨w.heap.size, 1, none⟩) (by show w.heap.size < w18.heap.size; omega)).trans kc0_1; have kb19_2 := (hbb19.cell (p := ⟨w.heap.size, 2, none⟩) (by show w.heap.size < w18.heap.size; omega)).trans kc0_2; have kb19_3 := (hbb19.cell (p := ⟨(w.heap.size + 1), 0, none⟩) (by show (w.heap.size + 1) < w18.heap.size; omega)).trans kc1_0; have kb19_4 := (hbb19.cell (p := ⟨(w.heap.size + 1), 1, none⟩) (by show (w.heap.size + 1) < w18.heap.size; omega)).trans kc1_1; have kb19_5 := (hbb19.cell (p := ⟨w6.heap.size, 0, none⟩) (by show w6.heap.size < w18.heap.size; omega)).trans kc2_0; have kb19_6 := (hbb19.cell (p := ⟨w6.heap.size, 1, none⟩) (by show w6.heap.size < w18.heap.size; omega)).trans kc2_1; have kb19_7 := (hbb19.cell (p := ⟨w6.heap.size, 2, none⟩) (by show w6.heap.size < w18.heap.size; omega)).trans kc2_2; have kb19_8 := (hbb19.cell (p := ⟨w8.heap.size, 0, none⟩) (by show w8.heap.size < w18.heap.size; omega)).trans kc3_0; have kb19_9 := (hbb19.cell (p := ⟨w8.heap.size, 1, none⟩) (by show w8.heap.size < w18.heap.size; omega)).trans kc3_1) | (go_at_call 8; refine (toNetwork_any _ d0 _ _ _ (Net.below H0.out hbw18.drew (Nat.le_refl _)) (by show _ ≤ w18.heap.size; omega) (by omega)).mono ?_; rintro e wa19 ⟨ra19_0, rfl, hra19, hbd19⟩; have hba19 : Below w18.heap.size w18 wa19 := (Below.refl _ _).drew.trans hbd19; clear hbd19; have Ra19_0 := Lib.hid hra19; obtain ⟨Ara19_0, cra19_0, Ara19_0', cra19_0', Ara19_0'', cra19_0'', rfl, _⟩ := hra19.net.parts; clear hra19; have hsa19 := hba19.size; have ka19_0 := (hba19.cell (p := ⟨w.heap.size, 0, none⟩) (by show w.heap.size < w18.heap.size; omega)).trans kc0_0; have ka19_1 := (hba19.cell (p := ⟨w.heap.size, 1, none⟩) (by show w.heap.size < w18.heap.size; omega)).trans kc0_1; have ka19_2 := (hba19.cell (p := ⟨w.heap.size, 2, none⟩) (by show w.heap.size < w18.heap.size; omega)).trans kc0_2; have ka19_3 := (hba19.cell (p := ⟨(w.heap.size + 1), 0, none⟩) (by show (w.heap.size + 1) < w18.heap.size; omega)).trans kc1_0; have ka19_4 := (hba19.cell (p := ⟨(w.heap.size + 1), 1, none⟩) (by show (w.heap.size + 1) < w18.heap.size; omega)).trans kc1_1; have ka19_5 := (hba19.cell (p := ⟨w6.heap.size, 0, none⟩) (by show w6.heap.size < w18.heap.size; omega)).trans kc2_0; have ka19_6 := (hba19.cell (p := ⟨w6.heap.size, 1, none⟩) (by show w6.heap.size < w18.heap.size; omega)).trans kc2_1; have ka19_7 := (hba19.cell (p := ⟨w6.heap.size, 2, none⟩) (by show w6.heap.size < w18.heap.size; omega)).trans kc2_2; have ka19_8 := (hba19.cell (p := ⟨w8.heap.size, 0, none⟩) (by show w8.heap.size < w18.heap.size; omega)).trans kc3_0; have ka19_9 := (hba19.cell (p := ⟨w8.heap.size, 1, none⟩) (by show w8.heap.size < w18.heap.size; omega)).trans kc3_1) | (go_at_call 9; refine (toDecomposition_any _ d1 _ _ _ (Dec.below H1.out (hbw18.trans (hba19.mono (by omega))) (Nat.le_refl _)) (by have := hba19.size; omega) (by omega)).mono ?_; rintro e wb19 ⟨rb19_1, rfl, hrb19, hbe19⟩; have hbb19 : Below w18.heap.size w18 wb19 := hba19.trans (hbe19.mono hba19.size); have Rb19_1 := Lib.hid hrb19; obtain ⟨Arb19_1, crb19_1, Arb19_1', crb19_1', rfl, _⟩ := hrb19.dec.parts; clear hrb19; have Rb19_0 := Lib.hid (NetX.below Ra19_0.out hbe19 (Nat.le_refl _)); have hse19 := hbe19.size; clear Ra19_0 hbe19; have kb19_0 := (hbb19.cell (p := ⟨w.heap.size, 0, none⟩) (by show w.heap.size < w18.heap.size; omega)).trans kc0_0; have kb19_1 := (hbb19.cell (p := ⟨w.heap.size, 1, none⟩) (by show w.heap.size < w18.heap.size; omega)).trans kc0_1; have kb19_2 := (hbb19.cell (p := ⟨w.heap.size, 2, none⟩) (by show w.heap.size < w18.heap.size; omega)).trans kc0_2; have kb19_3 := (hbb19.cell (p := ⟨(w.heap.size + 1), 0, none⟩) (by show (w.heap.size + 1) < w18.heap.size; omega)).trans kc1_0; have kb19_4 := (hbb19.cell (p := ⟨(w.heap.size + 1), 1, none⟩) (by show (w.heap.size + 1) < w18.heap.size; omega)).trans kc1_1; have kb19_5 := (hbb19.cell (p := ⟨w6.heap.size, 0, none⟩) (by show w6.heap.size < w18.heap.size; omega)).trans kc2_0; have kb19_6 := (hbb19.cell (p := ⟨w6.heap.size, 1, none⟩) (by show w6.heap.size < w18.heap.size; omega)).trans kc2_1; have kb19_7 := (hbb19.cell (p := ⟨w6.heap.size, 2, none⟩) (by show w6.heap.size < w18.heap.size; omega)).trans kc2_2; have kb19_8 := (hbb19.cell (p := ⟨w8.heap.size, 0, none⟩) (by show w8.heap.size < w18.heap.size; omega)).trans kc3_0; have kb19_9 := (hbb19.cell (p := ⟨w8.heap.size, 1, none⟩) (by show w8.heap.size < w18.heap.size; omega)).trans kc3_1) | (go_at_call 9; refine (toDecomposition_any _ d1 _ _ _ (Dec.below H1.out hbw18.drew (Nat.le_refl _)) (by show _ ≤ w18.heap.size; omega) (by omega)).mono ?_; rintro e wa19 ⟨ra19_1, rfl, hra19, hbd19⟩; have hba19 : Below w18.heap.size w18 wa19 := (Below.refl _ _).drew.trans hbd19; clear hbd19; have Ra19_1 := Lib.hid hra19; obtain ⟨Ara19_1, cra19_1, Ara19_1', cra19_1', rfl, _⟩ := hra19.dec.parts; clear hra19; have hsa19 := hba19.size; have ka19_0 := (hba19.cell (p := ⟨w.heap.size, 0, none⟩) (by show w.heap.size < w18.heap.size; omega)).trans kc0_0; have ka19_1 := (hba19.cell (p := ⟨w.heap.size, 1, none⟩) (by show w.heap.size < w18.heap.size; omega)).trans kc0_1; have ka19_2 := (hba19.cell (p := ⟨w.heap.size, 2, none⟩) (by show w.heap.size < w18.heap.size; omega)).trans kc0_2; have ka19_3 := (hba19.cell (p := ⟨(w.heap.size + 1), 0, none⟩) (by show (w.heap.size + 1) < w18.heap.size; omega)).trans kc1_0; have ka19_4 := (hba19.cell (p := ⟨(w.heap.size + 1), 1, none⟩) (by show (w.heap.size + 1) < w18.heap.size; omega)).trans kc1_1; have ka19_5 := (hba19.cell (p := ⟨w6.heap.size, 0, none⟩) (by show w6.heap.size < w18.heap.size; omega)).trans kc2_0; have ka19_6 := (hba19.cell (p := ⟨w6.heap.size, 1, none⟩) (by show w6.heap.size < w18.heap.size; omega)).trans kc2_1; have ka19_7 := (hba19.cell (p := ⟨w6.heap.size, 2, none⟩) (by show w6.heap.size < w18.heap.size; omega)).trans kc2_2; have ka19_8 := (hba19.cell (p := ⟨w8.heap.size, 0, none⟩) (by show w8.heap.size < w18.heap.size; omega)).trans kc3_0; have ka19_9 := (hba19.cell (p := ⟨w8.heap.size, 1, none⟩) (by show w8.heap.size < w18.heap.size; omega)).trans kc3_1) | (go_at_call 10; refine (IndependentByClusters_impl _ d0 _ _ _ d1 _ _ _ Rb19_0.out.net (by omega) Rb19_1.out.dec (by omega) (by omega) (by omega) I0.out I1.out).mono ?_; rintro e w19 ⟨r19_0, rfl, hr19_0, hbr19⟩; have hbz19 : Below w18.heap.size w18 w19 := hbb19.trans (hbr19.mono hbb19.size); have hsb19 := hbb19.size; have hsf19 := hbr19.size; clear hbr19; have R19_0 := Lib.hid hr19_0; obtain ⟨Ar19_0, cr19_0, rfl⟩ := hr19_0.shape; clear hr19_0; have kd19_0 := (hbz19.cell (p := ⟨w.heap.size, 0, none⟩) (by show w.heap.size < w18.heap.size; omega)).trans kc0_0; have kd19_1 := (hbz19.cell (p := ⟨w.heap.size, 1, none⟩) (by show w.heap.size < w18.heap.size; omega)).trans kc0_1; have kd19_2 := (hbz19.cell (p := ⟨w.heap.size, 2, none⟩) (by show w.heap.size < w18.heap.size; omega)).trans kc0_2; have kd19_3 := (hbz19.cell (p := ⟨(w.heap.size + 1), 0, none⟩) (by show (w.heap.size + 1) < w18.heap.size; omega)).trans kc1_0; have kd19_4 := (hbz19.cell (p := ⟨(w.heap.size + 1), 1, none⟩) (by show (w.heap.size + 1) < w18.heap.size; omega)).trans kc1_1; have kd19_5 := (hbz19.cell (p := ⟨w6.heap.size, 0, none⟩) (by show w6.heap.size < w18.heap.size; omega)).trans kc2_0; have kd19_6 := (hbz19.cell (p := ⟨w6.heap.size, 1, none⟩) (by show w6.heap.size < w18.heap.size; omega)).trans kc2_1; have kd19_7 := (hbz19.cell (p := ⟨w6.heap.size, 2, none⟩) (by show w6.heap.size < w18.heap.size; omega)).trans kc2_2; have kd19_8 := (hbz19.cell (p := ⟨w8.heap.size, 0, none⟩) (by show w8.heap.size < w18.heap.size; omega)).trans kc3_0; have kd19_9 := (hbz19.cell (p := ⟨w8.heap.size, 1, none⟩) (by show w8.heap.size < w18.heap.size; omega)).trans kc3_1))
      all_goals
        clear kc0_0 kc0_1 kc0_2 kc1_0 kc1_1 kc2_0 kc2_1 kc2_2 kc3_0 kc3_1 hq19 ka19_0 ka19_1 ka19_2 ka19_3 ka19_4 ka19_5 ka19_6 ka19_7 ka19_8 ka19_9 kb19_0 kb19_1 kb19_2 kb19_3 kb19_4 kb19_5 kb19_6 kb19_7 kb19_8 kb19_9 kd19_0 kd19_1 kd19_2 kd19_3 kd19_4 kd19_5 kd19_6 kd19_7 kd19_8 kd19_9 Rb19_0 Rb19_1 hba19 hbb19
        have hs19 := hbz19.size
        have hbw19 := hbw18.trans (hbz19.mono (by omega))
        clear hbw18
        have R5_0_19 := Lib.hid (IntS.below R5_0_18.out hbz19 (by omega)); clear R5_0_18
        have R6_19 := Lib.hid (NetX.below R6_18.out hbz19 (by omega)); clear R6_18
        have R8_19 := Lib.hid (DecX.below R8_18.out hbz19 (by omega)); clear R8_18
        have R10_0_19 := Lib.hid (IntS.below R10_0_18.out hbz19 (by omega)); clear R10_0_18
        have BX1_19 := BX1_18.below hbz19 (by omega); clear BX1_18
        have BX2_19 := BX2_18.below hbz19 (by omega); clear BX2_18
        have BX7_19 := BX7_18.below hbz19 (by omega); clear BX7_18
        have BX9_19 := BX9_18.below hbz19 (by omega); clear BX9_18
        obtain ⟨kc0_0, kc0_1, kc0_2⟩ := BX1_19.cells
        obtain ⟨kc1_0, kc1_1⟩ := BX2_19.cells
        obtain ⟨kc2_0, kc2_1, kc2_2⟩ := BX7_19.cells
        obtain ⟨kc3_0, kc3_1⟩ := BX9_19.cells
        go_wp2_with fail
        clear kc0_0 kc0_1 kc0_2 kc1_0 kc1_1 kc2_0 kc2_1 kc2_2 kc3_0 kc3_1
        refine (eqIntS_same _ _ (ibOut d0 d1) _ _ _ _ _ R19_0.out R5_0_19.out (by omega) (by omega)).mono ?_
        rintro e w20 ⟨rfl, hb20⟩
        have hs20 := hb20.size
        have hbw20 := hbw19.trans (hb20.mono (by omega))
        clear hbw19
        have R5_0_20 := Lib.hid (IntS.below R5_0_19.out hb20 (by omega)); clear R5_0_19
        have R6_20 := Lib.hid (NetX.below R6_19.out hb20 (by omega)); clear R6_19
        have R8_20 := Lib.hid (DecX.below R8_19.out hb20 (by omega)); clear R8_19
        have R10_0_20 := Lib.hid (IntS.below R10_0_19.out hb20 (by omega)); clear R10_0_19
        have R19_0_20 := Lib.hid (IntS.below R19_0.out hb20 (by omega)); clear R19_0
        have BX1_20 := BX1_19.below hb20 (by omega); clear BX1_19
        have BX2_20 := BX2_19.below hb20 (by omega); clear BX2_19
        have BX7_20 := BX7_19.below hb20 (by omega); clear BX7_19
        have BX9_20 := BX9_19.below hb20 (by omega); clear BX9_19
        obtain ⟨kc0_0, kc0_1, kc0_2⟩ := BX1_20.cells
        obtain ⟨kc1_0, kc1_1⟩ := BX2_20.cells
        obtain ⟨kc2_0, kc2_1, kc2_2⟩ := BX7_20.cells
        obtain ⟨kc3_0, kc3_1⟩ := BX9_20.cells
        go_wp2_with fail
        clear kc0_0 kc0_1 kc0_2 kc1_0 kc1_1 kc2_0 kc2_1 kc2_2 kc3_0 kc3_1
        refine (heldIntS_yes _ (ibOut d0 d1) _ _ _ _ R10_0_20.out (by omega) (by omega) (by omega)).mono ?_
        rintro e w21 ⟨rfl, hb21⟩
        have hs21 := hb21.size
        have hbw21 := hbw20.trans (hb21.mono (by omega))
        clear hbw20
        have R5_0_21 := Lib.hid (IntS.below R5_0_20.out hb21 (by omega)); clear R5_0_20
        have R6_21 := Lib.hid (NetX.below R6_20.out hb21 (by omega)); clear R6_20
        have R8_21 := Lib.hid (DecX.below R8_20.out hb21 (by omega)); clear R8_20
        have R10_0_21 := Lib.hid (IntS.below R10_0_20.out hb21 (by omega)); clear R10_0_20
        have R19_0_21 := Lib.hid (IntS.below R19_0_20.out hb21 (by omega)); clear R19_0_20
        have BX1_21 := BX1_20.below hb21 (by omega); clear BX1_20
        have BX2_21 := BX2_20.below hb21 (by omega); clear BX2_20
        have BX7_21 := BX7_20.below hb21 (by omega); clear BX7_20
        have BX9_21 := BX9_20.below hb21 (by omega); clear BX9_20
        go_wp2_with fail
        go_ret
        exact ⟨rfl, hbw21⟩
end Go.Proofs.YtakcjdlliejldaaGreat.fnExactIndependentByClusters
