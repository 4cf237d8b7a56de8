/-
  For all arguments the program's MergeTables returns what the reference's returns, leaves its arguments as they were, and returns memory of its own. No condition.
-/
import Derived.Test.YtlfdhhmccjkogaaMrgW
import Derived.Deep.RegionHeld3
namespace Go.Proofs.Ytlfdhhmccjkogaa.fnExactMergeTables
open Go.ChangeShapes Go.WideShapes Go.ChangeAt Go.RowKit
set_option linter.unusedVariables false

theorem own : ownKnob Try.prog.godebug = none := by kernel_rfl
theorem laidOut : laidOutB Try.prog = true := by kernel_rfl

set_option maxHeartbeats 40000000 in
set_option maxRecDepth 100000 in
theorem walk (w : World) (v0 : Value) (d0 : TabD) (h0 : Tab w 0 w.heap.size v0 d0) (i0 : d0.Ok) (v1 : Value) (d1 : TabD) (h1 : Tab w 0 w.heap.size v1 d1) (i1 : d1.Ok) :
    Calls Try.prog 3 #[v0, v1] w fun e w' => e = .returned (.bool true) ∧ Below w.heap.size w w' := by
  have H0 := Lib.hid h0
  obtain ⟨A0, c0, rfl, _⟩ := h0.parts
  clear h0
  have I0 := Lib.hid i0; clear i0
  have H1 := Lib.hid h1
  obtain ⟨A1, c1, rfl, _⟩ := h1.parts
  clear h1
  have I1 := Lib.hid i1; clear i1
  have hdl := mergeS_cnt d0 d1
  have hcnt0 := TabD.cnt_le d0
  have hcnt1 := TabD.cnt_le d1
  by_cases cond0 : d0.sz ≤ 1048576
  case neg =>
    obtain ⟨w1, HW1⟩ : ∃ W, Hid (W = w.alloc (.cells #[.int .i64 d0.depth, .slice A0 d0.rows.length c0] 24)) := ⟨_, Lib.hid rfl⟩
    have hb1 : Below w.heap.size w w1 := by rw [HW1.out]; exact below_a1 _ _
    have hz1 : w.heap.size + 1 ≤ w1.heap.size := by rw [HW1.out]; simp
    have hs1 := hb1.size
    have hbw1 := hb1
    have BX1 : Box2 w1 w.heap.size 24 (.int .i64 d0.depth) (.slice A0 d0.rows.length c0) := by rw [HW1.out]; exact Box2.new _ _ _ _
    obtain ⟨w2, HW2⟩ : ∃ W, Hid (W = w1.alloc (.cells #[.int .i64 d1.depth, .slice A1 d1.rows.length c1] 24)) := ⟨_, Lib.hid rfl⟩
    have hb2 : Below w1.heap.size w1 w2 := by rw [HW2.out]; exact below_a1 _ _
    have hz2 : w1.heap.size + 1 ≤ w2.heap.size := by rw [HW2.out]; simp
    have hs2 := hb2.size
    have hbw2 := hbw1.trans (hb2.mono (by omega))
    clear hbw1
    have BX1_2 := BX1.below hb2 (by omega); clear BX1
    have hzz2 : w1.heap.size = w.heap.size + 1 := by rw [HW1.out]; simp
    have BX2 : Box2 w2 (w.heap.size + 1) 24 (.int .i64 d1.depth) (.slice A1 d1.rows.length c1) := by rw [← hzz2, HW2.out]; exact Box2.new _ _ _ _
    have hzy2 : w.heap.size + 1 < w2.heap.size := by omega
    clear hzz2
    go_enter Try.func3, Try.ntmps3
    obtain ⟨kc0_0, kc0_1⟩ := BX1_2.cells
    obtain ⟨kc1_0, kc1_1⟩ := BX2.cells
    go_wp2_with fail
    rw [← HW1.out]; clear HW1
    rw [← HW2.out]; clear HW2
    clear kc0_0 kc0_1 kc1_0 kc1_1
    refine (szTable_no _ d0 _ _ _ _ (Tab.below H0.out hbw2 (Nat.le_refl _)) I0.out (by omega) (by omega) (by omega) (by omega)).mono ?_
    rintro e w3 ⟨rfl, hb3⟩
    have hs3 := hb3.size
    have hbw3 := hbw2.trans (hb3.mono (by omega))
    clear hbw2
    have BX1_3 := BX1_2.below hb3 (by omega); clear BX1_2
    have BX2_3 := BX2.below hb3 (by omega); clear BX2
    obtain ⟨kc0_0, kc0_1⟩ := BX1_3.cells
    obtain ⟨kc1_0, kc1_1⟩ := BX2_3.cells
    go_wp2_with fail
    clear kc0_0 kc0_1 kc1_0 kc1_1
    go_ret
    exact ⟨rfl, hbw3⟩
  by_cases cond1 : d0.sz + d1.sz ≤ 1048576
  case neg =>
    obtain ⟨w1, HW1⟩ : ∃ W, Hid (W = w.alloc (.cells #[.int .i64 d0.depth, .slice A0 d0.rows.length c0] 24)) := ⟨_, Lib.hid rfl⟩
    have hb1 : Below w.heap.size w w1 := by rw [HW1.out]; exact below_a1 _ _
    have hz1 : w.heap.size + 1 ≤ w1.heap.size := by rw [HW1.out]; simp
    have hs1 := hb1.size
    have hbw1 := hb1
    have BX1 : Box2 w1 w.heap.size 24 (.int .i64 d0.depth) (.slice A0 d0.rows.length c0) := by rw [HW1.out]; exact Box2.new _ _ _ _
    obtain ⟨w2, HW2⟩ : ∃ W, Hid (W = w1.alloc (.cells #[.int .i64 d1.depth, .slice A1 d1.rows.length c1] 24)) := ⟨_, Lib.hid rfl⟩
    have hb2 : Below w1.heap.size w1 w2 := by rw [HW2.out]; exact below_a1 _ _
    have hz2 : w1.heap.size + 1 ≤ w2.heap.size := by rw [HW2.out]; simp
    have hs2 := hb2.size
    have hbw2 := hbw1.trans (hb2.mono (by omega))
    clear hbw1
    have BX1_2 := BX1.below hb2 (by omega); clear BX1
    have hzz2 : w1.heap.size = w.heap.size + 1 := by rw [HW1.out]; simp
    have BX2 : Box2 w2 (w.heap.size + 1) 24 (.int .i64 d1.depth) (.slice A1 d1.rows.length c1) := by rw [← hzz2, HW2.out]; exact Box2.new _ _ _ _
    have hzy2 : w.heap.size + 1 < w2.heap.size := by omega
    clear hzz2
    go_enter Try.func3, Try.ntmps3
    obtain ⟨kc0_0, kc0_1⟩ := BX1_2.cells
    obtain ⟨kc1_0, kc1_1⟩ := BX2.cells
    go_wp2_with fail
    rw [← HW1.out]; clear HW1
    rw [← HW2.out]; clear HW2
    clear kc0_0 kc0_1 kc1_0 kc1_1
    refine (szTable_yes _ d0 _ _ _ _ (Tab.below H0.out hbw2 (Nat.le_refl _)) I0.out (by omega) (by omega) (by omega)).mono ?_
    rintro e w3 ⟨rfl, hb3⟩
    have hs3 := hb3.size
    have hbw3 := hbw2.trans (hb3.mono (by omega))
    clear hbw2
    have BX1_3 := BX1_2.below hb3 (by omega); clear BX1_2
    have BX2_3 := BX2.below hb3 (by omega); clear BX2
    obtain ⟨kc0_0, kc0_1⟩ := BX1_3.cells
    obtain ⟨kc1_0, kc1_1⟩ := BX2_3.cells
    go_wp2_with fail
    clear kc0_0 kc0_1 kc1_0 kc1_1
    refine (szTable_no _ d1 _ _ _ _ (Tab.below H1.out hbw3 (Nat.le_refl _)) I1.out (by omega) (by omega) (by omega) (by omega)).mono ?_
    rintro e w4 ⟨rfl, hb4⟩
    have hs4 := hb4.size
    have hbw4 := hbw3.trans (hb4.mono (by omega))
    clear hbw3
    have BX1_4 := BX1_3.below hb4 (by omega); clear BX1_3
    have BX2_4 := BX2_3.below hb4 (by omega); clear BX2_3
    obtain ⟨kc0_0, kc0_1⟩ := BX1_4.cells
    obtain ⟨kc1_0, kc1_1⟩ := BX2_4.cells
    go_wp2_with fail
    clear kc0_0 kc0_1 kc1_0 kc1_1
    go_ret
    exact ⟨rfl, hbw4⟩
  case pos =>
    obtain ⟨w1, HW1⟩ : ∃ W, Hid (W = w.alloc (.cells #[.int .i64 d0.depth, .slice A0 d0.rows.length c0] 24)) := ⟨_, Lib.hid rfl⟩
    have hb1 : Below w.heap.size w w1 := by rw [HW1.out]; exact below_a1 _ _
    have hz1 : w.heap.size + 1 ≤ w1.heap.size := by rw [HW1.out]; simp
    have hs1 := hb1.size
    have hbw1 := hb1
    have BX1 : Box2 w1 w.heap.size 24 (.int .i64 d0.depth) (.slice A0 d0.rows.length c0) := by rw [HW1.out]; exact Box2.new _ _ _ _
    obtain ⟨w2, HW2⟩ : ∃ W, Hid (W = w1.alloc (.cells #[.int .i64 d1.depth, .slice A1 d1.rows.length c1] 24)) := ⟨_, Lib.hid rfl⟩
    have hb2 : Below w1.heap.size w1 w2 := by rw [HW2.out]; exact below_a1 _ _
    have hz2 : w1.heap.size + 1 ≤ w2.heap.size := by rw [HW2.out]; simp
    have hs2 := hb2.size
    have hbw2 := hbw1.trans (hb2.mono (by omega))
    clear hbw1
    have BX1_2 := BX1.below hb2 (by omega); clear BX1
    have hzz2 : w1.heap.size = w.heap.size + 1 := by rw [HW1.out]; simp
    have BX2 : Box2 w2 (w.heap.size + 1) 24 (.int .i64 d1.depth) (.slice A1 d1.rows.length c1) := by rw [← hzz2, HW2.out]; exact Box2.new _ _ _ _
    have hzy2 : w.heap.size + 1 < w2.heap.size := by omega
    clear hzz2
    go_enter Try.func3, Try.ntmps3
    obtain ⟨kc0_0, kc0_1⟩ := BX1_2.cells
    obtain ⟨kc1_0, kc1_1⟩ := BX2.cells
    go_wp2_with fail
    rw [← HW1.out]; clear HW1
    rw [← HW2.out]; clear HW2
    clear kc0_0 kc0_1 kc1_0 kc1_1
    refine (szTable_yes _ d0 _ _ _ _ (Tab.below H0.out hbw2 (Nat.le_refl _)) I0.out (by omega) (by omega) (by omega)).mono ?_
    rintro e w3 ⟨rfl, hb3⟩
    have hs3 := hb3.size
    have hbw3 := hbw2.trans (hb3.mono (by omega))
    clear hbw2
    have BX1_3 := BX1_2.below hb3 (by omega); clear BX1_2
    have BX2_3 := BX2.below hb3 (by omega); clear BX2
    obtain ⟨kc0_0, kc0_1⟩ := BX1_3.cells
    obtain ⟨kc1_0, kc1_1⟩ := BX2_3.cells
    go_wp2_with fail
    clear kc0_0 kc0_1 kc1_0 kc1_1
    refine (szTable_yes _ d1 _ _ _ _ (Tab.below H1.out hbw3 (Nat.le_refl _)) I1.out (by omega) (by omega) (by omega)).mono ?_
    rintro e w4 ⟨rfl, hb4⟩
    have hs4 := hb4.size
    have hbw4 := hbw3.trans (hb4.mono (by omega))
    clear hbw3
    have BX1_4 := BX1_3.below hb4 (by omega); clear BX1_3
    have BX2_4 := BX2_3.below hb4 (by omega); clear BX2_3
    obtain ⟨kc0_0, kc0_1⟩ := BX1_4.cells
    obtain ⟨kc1_0, kc1_1⟩ := BX2_4.cells
    go_wp2_with fail
    clear kc0_0 kc0_1 kc1_0 kc1_1
    refine wp_region_U (fun w' => w'.cell? ⟨w.heap.size, 0, none⟩ = some (.int .i64 d0.depth) ∧ w'.cell? ⟨w.heap.size, 1, none⟩ = some (.slice A0 d0.rows.length c0) ∧ w'.cell? ⟨(w.heap.size + 1), 0, none⟩ = some (.int .i64 d1.depth) ∧ w'.cell? ⟨(w.heap.size + 1), 1, none⟩ = some (.slice A1 d1.rows.length c1)) [10] (by kernel_rfl) ?_
    refine nameU ?_
    intro V5 HV5
    have hv0 : Below w4.heap.size w4 V5 := by rw [HV5.out]; exact (Below.refl _ _).drew
    clear HV5
    have hsz0 := hv0.size
    have E0_0 := BX1_4.below hv0 (by omega)
    obtain ⟨z0_0_0, z0_0_1⟩ := E0_0.cells
    have E0_1 := BX2_4.below hv0 (by omega)
    obtain ⟨z0_1_0, z0_1_1⟩ := E0_1.cells
    have hS0 : V5.cell? ⟨w.heap.size, 0, none⟩ = some (.int .i64 d0.depth) ∧ V5.cell? ⟨w.heap.size, 1, none⟩ = some (.slice A0 d0.rows.length c0) ∧ V5.cell? ⟨(w.heap.size + 1), 0, none⟩ = some (.int .i64 d1.depth) ∧ V5.cell? ⟨(w.heap.size + 1), 1, none⟩ = some (.slice A1 d1.rows.length c1) := ⟨z0_0_0, z0_0_1, z0_1_0, z0_1_1⟩
    clear z0_0_0 z0_0_1 z0_1_0 z0_1_1 E0_0 E0_1
    refine anyU_take (i := 0) (v := .agg #[.int .i64 d0.depth, .slice A0 d0.rows.length c0]) rfl (by kernel_rfl) (by kernel_rfl) (by kernel_rfl) (fun _ _ _ h => h) ⟨by rfl, fun w' hS' => (by obtain ⟨k1, k2, k3, k4⟩ := hS'; go_simp)⟩ hS0 ?_
    simp only [List.getElem_toArray, List.getElem_cons_zero, Act.put, List.setIfInBounds_toArray, List.set_cons_zero, List.set_cons_succ]
    refine anyU_take (i := 2) (v := .agg #[.int .i64 d1.depth, .slice A1 d1.rows.length c1]) rfl (by kernel_rfl) (by kernel_rfl) (by kernel_rfl) (fun _ _ _ h => h) ⟨by rfl, fun w' hS' => (by obtain ⟨k1, k2, k3, k4⟩ := hS'; go_simp)⟩ hS0 ?_
    simp only [List.getElem_toArray, List.getElem_cons_succ, List.getElem_cons_zero, Act.put, List.setIfInBounds_toArray, List.set_cons_zero, List.set_cons_succ]
    refine anyU_ready (rs := [1, 8]) (by kernel_rfl) (by simp) ?_
    refine ReadyU.cons (i := 1) rfl (fun K hK => ?_) (ReadyU.cons (i := 8) rfl (fun K hK => ?_) ReadyU.nil)
    simp only [List.getElem_toArray, List.getElem_cons_succ, List.getElem_cons_zero]
    refine ite_is (by rfl) ?_
    simp [go_sem]
    refine (toTable_any _ d0 _ _ _ (Tab.below H0.out (hbw4.trans (hv0.mono (by omega))) (Nat.le_refl _)) (by omega) (by omega)).mono ?_
    rintro e X5_1 ⟨ra5, rfl, hra, hbe⟩
    have hv1 : Below w4.heap.size w4 X5_1 := hv0.trans (hbe.mono hv0.size)
    have hsz1 := hv1.size
    have hse1 := hbe.size
    have RA1 := Lib.hid hra
    obtain ⟨Ara5, cra5, rfl, _⟩ := hra.parts
    clear hra
    clear hbe
    have E1_0 := BX1_4.below hv1 (by omega)
    obtain ⟨z1_0_0, z1_0_1⟩ := E1_0.cells
    have E1_1 := BX2_4.below hv1 (by omega)
    obtain ⟨z1_1_0, z1_1_1⟩ := E1_1.cells
    have hS1 : X5_1.cell? ⟨w.heap.size, 0, none⟩ = some (.int .i64 d0.depth) ∧ X5_1.cell? ⟨w.heap.size, 1, none⟩ = some (.slice A0 d0.rows.length c0) ∧ X5_1.cell? ⟨(w.heap.size + 1), 0, none⟩ = some (.int .i64 d1.depth) ∧ X5_1.cell? ⟨(w.heap.size + 1), 1, none⟩ = some (.slice A1 d1.rows.length c1) := ⟨z1_0_0, z1_0_1, z1_1_0, z1_1_1⟩
    clear z1_0_0 z1_0_1 z1_1_0 z1_1_1 E1_0 E1_1
    refine hK.out _ _ ⟨fun _ => hS1, ?_⟩
    clear hK K
    try simp only [List.getElem_toArray, List.getElem_cons_succ, List.getElem_cons_zero, Act.put, List.setIfInBounds_toArray, List.set_cons_zero, List.set_cons_succ]
    refine anyU_ready (rs := [3, 8]) (by kernel_rfl) (by simp) ?_
    refine ReadyU.cons (i := 3) rfl (fun K hK => ?_) (ReadyU.cons (i := 8) rfl (fun K hK => ?_) ReadyU.nil)
    simp only [List.getElem_toArray, List.getElem_cons_succ, List.getElem_cons_zero]
    refine ite_is (by rfl) ?_
    simp [go_sem]
    refine (toTable_any _ d1 _ _ _ (Tab.below H1.out (hbw4.trans (hv1.mono (by omega))) (Nat.le_refl _)) (by omega) (by omega)).mono ?_
    rintro e X5_2 ⟨rb5, rfl, hrb, hbe⟩
    have hv2 : Below w4.heap.size w4 X5_2 := hv1.trans (hbe.mono hv1.size)
    have hsz2 := hv2.size
    have hse2 := hbe.size
    have RA2 := Lib.hid (Tab.below RA1.out hbe (by omega)); clear RA1
    have RB2 := Lib.hid hrb
    obtain ⟨Arb5, crb5, rfl, _⟩ := hrb.parts
    clear hrb
    clear hbe
    have E2_0 := BX1_4.below hv2 (by omega)
    obtain ⟨z2_0_0, z2_0_1⟩ := E2_0.cells
    have E2_1 := BX2_4.below hv2 (by omega)
    obtain ⟨z2_1_0, z2_1_1⟩ := E2_1.cells
    have hS2 : X5_2.cell? ⟨w.heap.size, 0, none⟩ = some (.int .i64 d0.depth) ∧ X5_2.cell? ⟨w.heap.size, 1, none⟩ = some (.slice A0 d0.rows.length c0) ∧ X5_2.cell? ⟨(w.heap.size + 1), 0, none⟩ = some (.int .i64 d1.depth) ∧ X5_2.cell? ⟨(w.heap.size + 1), 1, none⟩ = some (.slice A1 d1.rows.length c1) := ⟨z2_0_0, z2_0_1, z2_1_0, z2_1_1⟩
    clear z2_0_0 z2_0_1 z2_1_0 z2_1_1 E2_0 E2_1
    refine hK.out _ _ ⟨fun _ => hS2, ?_⟩
    clear hK K
    try simp only [List.getElem_toArray, List.getElem_cons_succ, List.getElem_cons_zero, Act.put, List.setIfInBounds_toArray, List.set_cons_zero, List.set_cons_succ]
    refine anyU_ready (rs := [4, 8]) (by kernel_rfl) (by simp) ?_
    refine ReadyU.cons (i := 4) rfl (fun K hK => ?_) (ReadyU.cons (i := 8) rfl (fun K hK => ?_) ReadyU.nil)
    simp only [List.getElem_toArray, List.getElem_cons_succ, List.getElem_cons_zero]
    refine ite_is (by rfl) ?_
    simp [go_sem]
    refine (MergeTables_spec _ d0 _ _ _ d1 _ _ _ RA2.out (by omega) RB2.out (by omega) (by omega) (by omega) I0.out I1.out).mono ?_
    rintro e X5_3 ⟨r5, rfl, hrr, hbe⟩
    have hv3 : Below w4.heap.size w4 X5_3 := hv2.trans (hbe.mono hv2.size)
    have hsz3 := hv3.size
    have hse3 := hbe.size
    obtain ⟨Ar5, cr5, rfl, _⟩ := hrr.parts
    obtain ⟨lo5, hi5, RR3, hlo5, hlw5, hhi5⟩ : ∃ lo hi, Hid (Tab X5_3 lo hi (.agg #[.int .i64 (mergeS d0 d1).1.depth, .slice Ar5 (mergeS d0 d1).1.rows.length cr5]) (mergeS d0 d1).1) ∧ w4.heap.size ≤ lo ∧ X5_2.heap.size ≤ lo ∧ hi ≤ X5_3.heap.size := ⟨_, _, Lib.hid hrr, by omega, Nat.le_refl _, Nat.le_refl _⟩
    clear hrr RA2 RB2
    clear hbe
    have E3_0 := BX1_4.below hv3 (by omega)
    obtain ⟨z3_0_0, z3_0_1⟩ := E3_0.cells
    have E3_1 := BX2_4.below hv3 (by omega)
    obtain ⟨z3_1_0, z3_1_1⟩ := E3_1.cells
    have hS3 : X5_3.cell? ⟨w.heap.size, 0, none⟩ = some (.int .i64 d0.depth) ∧ X5_3.cell? ⟨w.heap.size, 1, none⟩ = some (.slice A0 d0.rows.length c0) ∧ X5_3.cell? ⟨(w.heap.size + 1), 0, none⟩ = some (.int .i64 d1.depth) ∧ X5_3.cell? ⟨(w.heap.size + 1), 1, none⟩ = some (.slice A1 d1.rows.length c1) := ⟨z3_0_0, z3_0_1, z3_1_0, z3_1_1⟩
    clear z3_0_0 z3_0_1 z3_1_0 z3_1_1 E3_0 E3_1
    refine hK.out _ _ ⟨fun _ => hS3, ?_⟩
    clear hK K
    try simp only [List.getElem_toArray, List.getElem_cons_succ, List.getElem_cons_zero, Act.put, List.setIfInBounds_toArray, List.set_cons_zero, List.set_cons_succ]
    refine anyU_take (i := 5) (v := .tuple #[.agg #[.int .i64 (mergeS d0 d1).1.depth, .slice Ar5 (mergeS d0 d1).1.rows.length cr5], .bool (mergeS d0 d1).2]) rfl (by kernel_rfl) (by kernel_rfl) (by kernel_rfl) (fun _ _ _ h => h) ⟨by rfl, fun w' hS' => (by obtain ⟨k1, k2, k3, k4⟩ := hS'; go_simp)⟩ hS3 ?_
    simp only [List.getElem_toArray, List.getElem_cons_succ, List.getElem_cons_zero, Act.put, List.setIfInBounds_toArray, List.set_cons_zero, List.set_cons_succ]
    refine anyU_take (i := 6) (v := .agg #[.int .i64 (mergeS d0 d1).1.depth, .slice Ar5 (mergeS d0 d1).1.rows.length cr5]) rfl (by kernel_rfl) (by kernel_rfl) (by kernel_rfl) (fun _ _ _ h => h) ⟨by rfl, fun w' hS' => (by obtain ⟨k1, k2, k3, k4⟩ := hS'; go_simp)⟩ hS3 ?_
    simp only [List.getElem_toArray, List.getElem_cons_succ, List.getElem_cons_zero, Act.put, List.setIfInBounds_toArray, List.set_cons_zero, List.set_cons_succ]
    refine anyU_take (i := 7) (v := .bool (mergeS d0 d1).2) rfl (by kernel_rfl) (by kernel_rfl) (by kernel_rfl) (fun _ _ _ h => h) ⟨by rfl, fun w' hS' => (by obtain ⟨k1, k2, k3, k4⟩ := hS'; go_simp)⟩ hS3 ?_
    simp only [List.getElem_toArray, List.getElem_cons_succ, List.getElem_cons_zero, Act.put, List.setIfInBounds_toArray, List.set_cons_zero, List.set_cons_succ]
    refine anyU_ready (rs := [8]) (by kernel_rfl) (by simp) ?_
    refine ReadyU.cons (i := 8) rfl (fun K hK => ?_) ReadyU.nil
    simp only [List.getElem_toArray, List.getElem_cons_succ, List.getElem_cons_zero]
    refine ite_is (by rfl) ?_
    simp [go_sem]
    have hv4 : Below w4.heap.size w4 (X5_3.alloc (.cells #[.int .i64 0, .slice none 0 0] 28)) := hv3.alloc hsz3 _
    have E4_0 := BX1_4.below hv4 (by omega)
    obtain ⟨z4_0_0, z4_0_1⟩ := E4_0.cells
    have E4_1 := BX2_4.below hv4 (by omega)
    obtain ⟨z4_1_0, z4_1_1⟩ := E4_1.cells
    have hS4 : (X5_3.alloc (.cells #[.int .i64 0, .slice none 0 0] 28)).cell? ⟨w.heap.size, 0, none⟩ = some (.int .i64 d0.depth) ∧ (X5_3.alloc (.cells #[.int .i64 0, .slice none 0 0] 28)).cell? ⟨w.heap.size, 1, none⟩ = some (.slice A0 d0.rows.length c0) ∧ (X5_3.alloc (.cells #[.int .i64 0, .slice none 0 0] 28)).cell? ⟨(w.heap.size + 1), 0, none⟩ = some (.int .i64 d1.depth) ∧ (X5_3.alloc (.cells #[.int .i64 0, .slice none 0 0] 28)).cell? ⟨(w.heap.size + 1), 1, none⟩ = some (.slice A1 d1.rows.length c1) := ⟨z4_0_0, z4_0_1, z4_1_0, z4_1_1⟩
    clear z4_0_0 z4_0_1 z4_1_0 z4_1_1 E4_0 E4_1
    refine hK.out _ _ ⟨fun _ => hS4, ?_⟩
    clear hK K
    try simp only [List.getElem_toArray, List.getElem_cons_succ, List.getElem_cons_zero, Act.put, List.setIfInBounds_toArray, List.set_cons_zero, List.set_cons_succ]
    refine nameU ?_
    intro X5_4 HX4
    obtain ⟨g5, HG4⟩ : ∃ g, Hid (X5_3.heap.size = g) := ⟨_, Lib.hid rfl⟩
    rw [HG4.out]
    rw [← HX4.out] at hv4 hS4
    have hsz4 := hv4.size
    have hse4 : X5_3.heap.size ≤ X5_4.heap.size := by rw [HX4.out]; simp
    have hg5 : w4.heap.size ≤ g5 ∧ g5 < X5_4.heap.size := ⟨by rw [← HG4.out]; exact hsz3, by rw [← HG4.out, HX4.out]; simp⟩
    have BZ4 : Box2 X5_4 g5 28 (.int .i64 0) (.slice none 0 0) := by rw [← HG4.out, HX4.out]; exact Box2.new _ _ _ _
    have hbx4 : Below X5_3.heap.size X5_3 X5_4 := by rw [HX4.out]; exact below_a1 _ _
    have RR4 := Lib.hid (Tab.below RR3.out hbx4 (by omega)); clear RR3
    have hap5 : g5 < lo5 ∨ hi5 ≤ g5 := .inr (by rw [← HG4.out]; exact hhi5)
    replace hhi5 : hi5 ≤ X5_4.heap.size := by omega
    clear HX4 hbx4
    have hzf := (BZ4 : BoxN X5_4 g5 #[.int .i64 0, .slice none 0 0] 28).frozen
    obtain ⟨zz0, zz1⟩ := BZ4.cells
    have hT5 : Turned g5 (g5 + 1) X5_4 ((X5_4.setCell ⟨g5, 0, none⟩ (.int .i64 (mergeS d0 d1).1.depth)).setCell ⟨g5, 1, none⟩ (.slice Ar5 (mergeS d0 d1).1.rows.length cr5)) := (((Turned.refl g5 (g5 + 1) X5_4).setCell (p := ⟨g5, 0, none⟩) (Nat.le_refl _) (Nat.lt_succ_self _) _).setCell (p := ⟨g5, 1, none⟩) (Nat.le_refl _) (Nat.lt_succ_self _) _)
    have hbz5 : Below w4.heap.size w4 ((X5_4.setCell ⟨g5, 0, none⟩ (.int .i64 (mergeS d0 d1).1.depth)).setCell ⟨g5, 1, none⟩ (.slice Ar5 (mergeS d0 d1).1.rows.length cr5)) := hv4.trans ((hT5.below (by omega)).mono hg5.1)
    have EY_0 := BX1_4.below hbz5 (by omega)
    obtain ⟨zY_0_0, zY_0_1⟩ := EY_0.cells
    have EY_1 := BX2_4.below hbz5 (by omega)
    obtain ⟨zY_1_0, zY_1_1⟩ := EY_1.cells
    have hSY : ((X5_4.setCell ⟨g5, 0, none⟩ (.int .i64 (mergeS d0 d1).1.depth)).setCell ⟨g5, 1, none⟩ (.slice Ar5 (mergeS d0 d1).1.rows.length cr5)).cell? ⟨w.heap.size, 0, none⟩ = some (.int .i64 d0.depth) ∧ ((X5_4.setCell ⟨g5, 0, none⟩ (.int .i64 (mergeS d0 d1).1.depth)).setCell ⟨g5, 1, none⟩ (.slice Ar5 (mergeS d0 d1).1.rows.length cr5)).cell? ⟨w.heap.size, 1, none⟩ = some (.slice A0 d0.rows.length c0) ∧ ((X5_4.setCell ⟨g5, 0, none⟩ (.int .i64 (mergeS d0 d1).1.depth)).setCell ⟨g5, 1, none⟩ (.slice Ar5 (mergeS d0 d1).1.rows.length cr5)).cell? ⟨(w.heap.size + 1), 0, none⟩ = some (.int .i64 d1.depth) ∧ ((X5_4.setCell ⟨g5, 0, none⟩ (.int .i64 (mergeS d0 d1).1.depth)).setCell ⟨g5, 1, none⟩ (.slice Ar5 (mergeS d0 d1).1.rows.length cr5)).cell? ⟨(w.heap.size + 1), 1, none⟩ = some (.slice A1 d1.rows.length c1) := ⟨zY_0_0, zY_0_1, zY_1_0, zY_1_1⟩
    clear zY_0_0 zY_0_1 zY_1_0 zY_1_1 EY_0 EY_1
    refine anyU_ready (rs := [9]) (by kernel_rfl) (by simp) ?_
    refine ReadyU.cons (i := 9) rfl (fun K hK => ?_) ReadyU.nil
    simp only [List.getElem_toArray, List.getElem_cons_succ, List.getElem_cons_zero]
    refine ite_is (by rfl) ?_
    simp [go_sem, zz0, zz1, hzf]
    refine hK.out _ _ ⟨fun _ => hSY, ?_⟩
    clear hK K
    try simp only [List.getElem_toArray, List.getElem_cons_succ, List.getElem_cons_zero, Act.put, List.setIfInBounds_toArray, List.set_cons_zero, List.set_cons_succ]
    refine nameU ?_
    intro w5 HY5
    rw [← HY5.out] at hT5 hbz5 hSY
    have R5_0 := Lib.hid (Tab.turned RR4.out hT5 hhi5 (by omega))
    have BXR5 : Box2 w5 g5 28 (.int .i64 (mergeS d0 d1).1.depth) (.slice Ar5 (mergeS d0 d1).1.rows.length cr5) := by rw [HY5.out]; exact box_store BZ4
    have hsY5 := hT5.size
    clear HY5 hT5 hzf zz0 zz1 BZ4 RR4
    refine anyU_ready (rs := [10]) (by kernel_rfl) (by simp) ?_
    refine ReadyU.cons (i := 10) rfl (fun K hK => ?_) ReadyU.nil
    simp only [List.getElem_toArray, List.getElem_cons_succ, List.getElem_cons_zero]
    refine ite_is (by rfl) ?_
    simp [go_sem]
    refine hK.out _ _ ⟨fun h => absurd h (by decide), ?_⟩
    clear hK K
    try simp only [List.getElem_toArray, List.getElem_cons_succ, List.getElem_cons_zero, Act.put, List.setIfInBounds_toArray, List.set_cons_zero, List.set_cons_succ]
    clear hSY
    refine anyU_done (by kernel_rfl) ?_ _
    rotate_left
    simp only [List.getElem_toArray, List.getElem_cons_succ, List.getElem_cons_zero]
    refine ite_is (by rfl) ?_
    simp [go_sem]
    have hv5 : Below w4.heap.size w4 (X5_2.alloc (.cells #[.int .i64 0, .slice none 0 0] 28)) := hv2.alloc hsz2 _
    have E5_0 := BX1_4.below hv5 (by omega)
    obtain ⟨z5_0_0, z5_0_1⟩ := E5_0.cells
    have E5_1 := BX2_4.below hv5 (by omega)
    obtain ⟨z5_1_0, z5_1_1⟩ := E5_1.cells
    have hS5 : (X5_2.alloc (.cells #[.int .i64 0, .slice none 0 0] 28)).cell? ⟨w.heap.size, 0, none⟩ = some (.int .i64 d0.depth) ∧ (X5_2.alloc (.cells #[.int .i64 0, .slice none 0 0] 28)).cell? ⟨w.heap.size, 1, none⟩ = some (.slice A0 d0.rows.length c0) ∧ (X5_2.alloc (.cells #[.int .i64 0, .slice none 0 0] 28)).cell? ⟨(w.heap.size + 1), 0, none⟩ = some (.int .i64 d1.depth) ∧ (X5_2.alloc (.cells #[.int .i64 0, .slice none 0 0] 28)).cell? ⟨(w.heap.size + 1), 1, none⟩ = some (.slice A1 d1.rows.length c1) := ⟨z5_0_0, z5_0_1, z5_1_0, z5_1_1⟩
    clear z5_0_0 z5_0_1 z5_1_0 z5_1_1 E5_0 E5_1
    refine hK.out _ _ ⟨fun _ => hS5, ?_⟩
    clear hK K
    try simp only [List.getElem_toArray, List.getElem_cons_succ, List.getElem_cons_zero, Act.put, List.setIfInBounds_toArray, List.set_cons_zero, List.set_cons_succ]
    refine nameU ?_
    intro X5_5 HX5
    obtain ⟨g5, HG5⟩ : ∃ g, Hid (X5_2.heap.size = g) := ⟨_, Lib.hid rfl⟩
    rw [HG5.out]
    rw [← HX5.out] at hv5 hS5
    have hsz5 := hv5.size
    have hse5 : X5_2.heap.size ≤ X5_5.heap.size := by rw [HX5.out]; simp
    have hg5 : w4.heap.size ≤ g5 ∧ g5 < X5_5.heap.size := ⟨by rw [← HG5.out]; exact hsz2, by rw [← HG5.out, HX5.out]; simp⟩
    have BZ5 : Box2 X5_5 g5 28 (.int .i64 0) (.slice none 0 0) := by rw [← HG5.out, HX5.out]; exact Box2.new _ _ _ _
    have hbx5 : Below X5_2.heap.size X5_2 X5_5 := by rw [HX5.out]; exact below_a1 _ _
    have RA5 := Lib.hid (Tab.below RA2.out hbx5 (by omega)); clear RA2
    have RB5 := Lib.hid (Tab.below RB2.out hbx5 (by omega)); clear RB2
    clear HX5 hbx5
    refine anyU_ready (rs := [4]) (by kernel_rfl) (by simp) ?_
    refine ReadyU.cons (i := 4) rfl (fun K hK => ?_) ReadyU.nil
    simp only [List.getElem_toArray, List.getElem_cons_succ, List.getElem_cons_zero]
    refine ite_is (by rfl) ?_
    simp [go_sem]
    refine (MergeTables_spec _ d0 _ _ _ d1 _ _ _ RA5.out (by omega) RB5.out (by omega) (by omega) (by omega) I0.out I1.out).mono ?_
    rintro e X5_6 ⟨r5, rfl, hrr, hbe⟩
    have hv6 : Below w4.heap.size w4 X5_6 := hv5.trans (hbe.mono hv5.size)
    have hsz6 := hv6.size
    have hse6 := hbe.size
    obtain ⟨Ar5, cr5, rfl, _⟩ := hrr.parts
    obtain ⟨lo5, hi5, RR6, hlo5, hlw5, hhi5⟩ : ∃ lo hi, Hid (Tab X5_6 lo hi (.agg #[.int .i64 (mergeS d0 d1).1.depth, .slice Ar5 (mergeS d0 d1).1.rows.length cr5]) (mergeS d0 d1).1) ∧ w4.heap.size ≤ lo ∧ X5_5.heap.size ≤ lo ∧ hi ≤ X5_6.heap.size := ⟨_, _, Lib.hid hrr, by omega, Nat.le_refl _, Nat.le_refl _⟩
    clear hrr RA5 RB5
    have BZ6 := BZ5.below hbe hg5.2; clear BZ5
    have hap5 : g5 < lo5 ∨ hi5 ≤ g5 := .inl (by omega)
    replace hg5 : w4.heap.size ≤ g5 ∧ g5 < X5_6.heap.size := ⟨hg5.1, by omega⟩
    clear hbe
    have E6_0 := BX1_4.below hv6 (by omega)
    obtain ⟨z6_0_0, z6_0_1⟩ := E6_0.cells
    have E6_1 := BX2_4.below hv6 (by omega)
    obtain ⟨z6_1_0, z6_1_1⟩ := E6_1.cells
    have hS6 : X5_6.cell? ⟨w.heap.size, 0, none⟩ = some (.int .i64 d0.depth) ∧ X5_6.cell? ⟨w.heap.size, 1, none⟩ = some (.slice A0 d0.rows.length c0) ∧ X5_6.cell? ⟨(w.heap.size + 1), 0, none⟩ = some (.int .i64 d1.depth) ∧ X5_6.cell? ⟨(w.heap.size + 1), 1, none⟩ = some (.slice A1 d1.rows.length c1) := ⟨z6_0_0, z6_0_1, z6_1_0, z6_1_1⟩
    clear z6_0_0 z6_0_1 z6_1_0 z6_1_1 E6_0 E6_1
    refine hK.out _ _ ⟨fun _ => hS6, ?_⟩
    clear hK K
    try simp only [List.getElem_toArray, List.getElem_cons_succ, List.getElem_cons_zero, Act.put, List.setIfInBounds_toArray, List.set_cons_zero, List.set_cons_succ]
    refine anyU_take (i := 5) (v := .tuple #[.agg #[.int .i64 (mergeS d0 d1).1.depth, .slice Ar5 (mergeS d0 d1).1.rows.length cr5], .bool (mergeS d0 d1).2]) rfl (by kernel_rfl) (by kernel_rfl) (by kernel_rfl) (fun _ _ _ h => h) ⟨by rfl, fun w' hS' => (by obtain ⟨k1, k2, k3, k4⟩ := hS'; go_simp)⟩ hS6 ?_
    simp only [List.getElem_toArray, List.getElem_cons_succ, List.getElem_cons_zero, Act.put, List.setIfInBounds_toArray, List.set_cons_zero, List.set_cons_succ]
    refine anyU_take (i := 6) (v := .agg #[.int .i64 (mergeS d0 d1).1.depth, .slice Ar5 (mergeS d0 d1).1.rows.length cr5]) rfl (by kernel_rfl) (by kernel_rfl) (by kernel_rfl) (fun _ _ _ h => h) ⟨by rfl, fun w' hS' => (by obtain ⟨k1, k2, k3, k4⟩ := hS'; go_simp)⟩ hS6 ?_
    simp only [List.getElem_toArray, List.getElem_cons_succ, List.getElem_cons_zero, Act.put, List.setIfInBounds_toArray, List.set_cons_zero, List.set_cons_succ]
    refine anyU_take (i := 7) (v := .bool (mergeS d0 d1).2) rfl (by kernel_rfl) (by kernel_rfl) (by kernel_rfl) (fun _ _ _ h => h) ⟨by rfl, fun w' hS' => (by obtain ⟨k1, k2, k3, k4⟩ := hS'; go_simp)⟩ hS6 ?_
    simp only [List.getElem_toArray, List.getElem_cons_succ, List.getElem_cons_zero, Act.put, List.setIfInBounds_toArray, List.set_cons_zero, List.set_cons_succ]
    have hzf := (BZ6 : BoxN X5_6 g5 #[.int .i64 0, .slice none 0 0] 28).frozen
    obtain ⟨zz0, zz1⟩ := BZ6.cells
    have hT5 : Turned g5 (g5 + 1) X5_6 ((X5_6.setCell ⟨g5, 0, none⟩ (.int .i64 (mergeS d0 d1).1.depth)).setCell ⟨g5, 1, none⟩ (.slice Ar5 (mergeS d0 d1).1.rows.length cr5)) := (((Turned.refl g5 (g5 + 1) X5_6).setCell (p := ⟨g5, 0, none⟩) (Nat.le_refl _) (Nat.lt_succ_self _) _).setCell (p := ⟨g5, 1, none⟩) (Nat.le_refl _) (Nat.lt_succ_self _) _)
    have hbz5 : Below w4.heap.size w4 ((X5_6.setCell ⟨g5, 0, none⟩ (.int .i64 (mergeS d0 d1).1.depth)).setCell ⟨g5, 1, none⟩ (.slice Ar5 (mergeS d0 d1).1.rows.length cr5)) := hv6.trans ((hT5.below (by omega)).mono hg5.1)
    have EY_0 := BX1_4.below hbz5 (by omega)
    obtain ⟨zY_0_0, zY_0_1⟩ := EY_0.cells
    have EY_1 := BX2_4.below hbz5 (by omega)
    obtain ⟨zY_1_0, zY_1_1⟩ := EY_1.cells
    have hSY : ((X5_6.setCell ⟨g5, 0, none⟩ (.int .i64 (mergeS d0 d1).1.depth)).setCell ⟨g5, 1, none⟩ (.slice Ar5 (mergeS d0 d1).1.rows.length cr5)).cell? ⟨w.heap.size, 0, none⟩ = some (.int .i64 d0.depth) ∧ ((X5_6.setCell ⟨g5, 0, none⟩ (.int .i64 (mergeS d0 d1).1.depth)).setCell ⟨g5, 1, none⟩ (.slice Ar5 (mergeS d0 d1).1.rows.length cr5)).cell? ⟨w.heap.size, 1, none⟩ = some (.slice A0 d0.rows.length c0) ∧ ((X5_6.setCell ⟨g5, 0, none⟩ (.int .i64 (mergeS d0 d1).1.depth)).setCell ⟨g5, 1, none⟩ (.slice Ar5 (mergeS d0 d1).1.rows.length cr5)).cell? ⟨(w.heap.size + 1), 0, none⟩ = some (.int .i64 d1.depth) ∧ ((X5_6.setCell ⟨g5, 0, none⟩ (.int .i64 (mergeS d0 d1).1.depth)).setCell ⟨g5, 1, none⟩ (.slice Ar5 (mergeS d0 d1).1.rows.length cr5)).cell? ⟨(w.heap.size + 1), 1, none⟩ = some (.slice A1 d1.rows.length c1) := ⟨zY_0_0, zY_0_1, zY_1_0, zY_1_1⟩
    clear zY_0_0 zY_0_1 zY_1_0 zY_1_1 EY_0 EY_1
    refine anyU_ready (rs := [9]) (by kernel_rfl) (by simp) ?_
    refine ReadyU.cons (i := 9) rfl (fun K hK => ?_) ReadyU.nil
    simp only [List.getElem_toArray, List.getElem_cons_succ, List.getElem_cons_zero]
    refine ite_is (by rfl) ?_
    simp [go_sem, zz0, zz1, hzf]
    refine hK.out _ _ ⟨fun _ => hSY, ?_⟩
    clear hK K
    try simp only [List.getElem_toArray, List.getElem_cons_succ, List.getElem_cons_zero, Act.put, List.setIfInBounds_toArray, List.set_cons_zero, List.set_cons_succ]
    refine nameU ?_
    intro w5 HY5
    rw [← HY5.out] at hT5 hbz5 hSY
    have R5_0 := Lib.hid (Tab.turned RR6.out hT5 hhi5 (by omega))
    have BXR5 : Box2 w5 g5 28 (.int .i64 (mergeS d0 d1).1.depth) (.slice Ar5 (mergeS d0 d1).1.rows.length cr5) := by rw [HY5.out]; exact box_store BZ6
    have hsY5 := hT5.size
    clear HY5 hT5 hzf zz0 zz1 BZ6 RR6
    refine anyU_ready (rs := [10]) (by kernel_rfl) (by simp) ?_
    refine ReadyU.cons (i := 10) rfl (fun K hK => ?_) ReadyU.nil
    simp only [List.getElem_toArray, List.getElem_cons_succ, List.getElem_cons_zero]
    refine ite_is (by rfl) ?_
    simp [go_sem]
    refine hK.out _ _ ⟨fun h => absurd h (by decide), ?_⟩
    clear hK K
    try simp only [List.getElem_toArray, List.getElem_cons_succ, List.getElem_cons_zero, Act.put, List.setIfInBounds_toArray, List.set_cons_zero, List.set_cons_succ]
    clear hSY
    refine anyU_done (by kernel_rfl) ?_ _
    rotate_left
    simp only [List.getElem_toArray, List.getElem_cons_succ, List.getElem_cons_zero]
    refine ite_is (by rfl) ?_
    simp [go_sem]
    have hv7 : Below w4.heap.size w4 (X5_1.alloc (.cells #[.int .i64 0, .slice none 0 0] 28)) := hv1.alloc hsz1 _
    have E7_0 := BX1_4.below hv7 (by omega)
    obtain ⟨z7_0_0, z7_0_1⟩ := E7_0.cells
    have E7_1 := BX2_4.below hv7 (by omega)
    obtain ⟨z7_1_0, z7_1_1⟩ := E7_1.cells
    have hS7 : (X5_1.alloc (.cells #[.int .i64 0, .slice none 0 0] 28)).cell? ⟨w.heap.size, 0, none⟩ = some (.int .i64 d0.depth) ∧ (X5_1.alloc (.cells #[.int .i64 0, .slice none 0 0] 28)).cell? ⟨w.heap.size, 1, none⟩ = some (.slice A0 d0.rows.length c0) ∧ (X5_1.alloc (.cells #[.int .i64 0, .slice none 0 0] 28)).cell? ⟨(w.heap.size + 1), 0, none⟩ = some (.int .i64 d1.depth) ∧ (X5_1.alloc (.cells #[.int .i64 0, .slice none 0 0] 28)).cell? ⟨(w.heap.size + 1), 1, none⟩ = some (.slice A1 d1.rows.length c1) := ⟨z7_0_0, z7_0_1, z7_1_0, z7_1_1⟩
    clear z7_0_0 z7_0_1 z7_1_0 z7_1_1 E7_0 E7_1
    refine hK.out _ _ ⟨fun _ => hS7, ?_⟩
    clear hK K
    try simp only [List.getElem_toArray, List.getElem_cons_succ, List.getElem_cons_zero, Act.put, List.setIfInBounds_toArray, List.set_cons_zero, List.set_cons_succ]
    refine nameU ?_
    intro X5_7 HX7
    obtain ⟨g5, HG7⟩ : ∃ g, Hid (X5_1.heap.size = g) := ⟨_, Lib.hid rfl⟩
    rw [HG7.out]
    rw [← HX7.out] at hv7 hS7
    have hsz7 := hv7.size
    have hse7 : X5_1.heap.size ≤ X5_7.heap.size := by rw [HX7.out]; simp
    have hg5 : w4.heap.size ≤ g5 ∧ g5 < X5_7.heap.size := ⟨by rw [← HG7.out]; exact hsz1, by rw [← HG7.out, HX7.out]; simp⟩
    have BZ7 : Box2 X5_7 g5 28 (.int .i64 0) (.slice none 0 0) := by rw [← HG7.out, HX7.out]; exact Box2.new _ _ _ _
    have hbx7 : Below X5_1.heap.size X5_1 X5_7 := by rw [HX7.out]; exact below_a1 _ _
    have RA7 := Lib.hid (Tab.below RA1.out hbx7 (by omega)); clear RA1
    clear HX7 hbx7
    refine anyU_ready (rs := [3]) (by kernel_rfl) (by simp) ?_
    refine ReadyU.cons (i := 3) rfl (fun K hK => ?_) ReadyU.nil
    simp only [List.getElem_toArray, List.getElem_cons_succ, List.getElem_cons_zero]
    refine ite_is (by rfl) ?_
    simp [go_sem]
    refine (toTable_any _ d1 _ _ _ (Tab.below H1.out (hbw4.trans (hv7.mono (by omega))) (Nat.le_refl _)) (by omega) (by omega)).mono ?_
    rintro e X5_8 ⟨rb5, rfl, hrb, hbe⟩
    have hv8 : Below w4.heap.size w4 X5_8 := hv7.trans (hbe.mono hv7.size)
    have hsz8 := hv8.size
    have hse8 := hbe.size
    have RA8 := Lib.hid (Tab.below RA7.out hbe (by omega)); clear RA7
    have RB8 := Lib.hid hrb
    obtain ⟨Arb5, crb5, rfl, _⟩ := hrb.parts
    clear hrb
    have BZ8 := BZ7.below hbe hg5.2; clear BZ7
    replace hg5 : w4.heap.size ≤ g5 ∧ g5 < X5_8.heap.size := ⟨hg5.1, by omega⟩
    clear hbe
    have E8_0 := BX1_4.below hv8 (by omega)
    obtain ⟨z8_0_0, z8_0_1⟩ := E8_0.cells
    have E8_1 := BX2_4.below hv8 (by omega)
    obtain ⟨z8_1_0, z8_1_1⟩ := E8_1.cells
    have hS8 : X5_8.cell? ⟨w.heap.size, 0, none⟩ = some (.int .i64 d0.depth) ∧ X5_8.cell? ⟨w.heap.size, 1, none⟩ = some (.slice A0 d0.rows.length c0) ∧ X5_8.cell? ⟨(w.heap.size + 1), 0, none⟩ = some (.int .i64 d1.depth) ∧ X5_8.cell? ⟨(w.heap.size + 1), 1, none⟩ = some (.slice A1 d1.rows.length c1) := ⟨z8_0_0, z8_0_1, z8_1_0, z8_1_1⟩
    clear z8_0_0 z8_0_1 z8_1_0 z8_1_1 E8_0 E8_1
    refine hK.out _ _ ⟨fun _ => hS8, ?_⟩
    clear hK K
    try simp only [List.getElem_toArray, List.getElem_cons_succ, List.getElem_cons_zero, Act.put, List.setIfInBounds_toArray, List.set_cons_zero, List.set_cons_succ]
    refine anyU_ready (rs := [4]) (by kernel_rfl) (by simp) ?_
    refine ReadyU.cons (i := 4) rfl (fun K hK => ?_) ReadyU.nil
    simp only [List.getElem_toArray, List.getElem_cons_succ, List.getElem_cons_zero]
    refine ite_is (by rfl) ?_
    simp [go_sem]
    refine (MergeTables_spec _ d0 _ _ _ d1 _ _ _ RA8.out (by omega) RB8.out (by omega) (by omega) (by omega) I0.out I1.out).mono ?_
    rintro e X5_9 ⟨r5, rfl, hrr, hbe⟩
    have hv9 : Below w4.heap.size w4 X5_9 := hv8.trans (hbe.mono hv8.size)
    have hsz9 := hv9.size
    have hse9 := hbe.size
    obtain ⟨Ar5, cr5, rfl, _⟩ := hrr.parts
    obtain ⟨lo5, hi5, RR9, hlo5, hlw5, hhi5⟩ : ∃ lo hi, Hid (Tab X5_9 lo hi (.agg #[.int .i64 (mergeS d0 d1).1.depth, .slice Ar5 (mergeS d0 d1).1.rows.length cr5]) (mergeS d0 d1).1) ∧ w4.heap.size ≤ lo ∧ X5_8.heap.size ≤ lo ∧ hi ≤ X5_9.heap.size := ⟨_, _, Lib.hid hrr, by omega, Nat.le_refl _, Nat.le_refl _⟩
    clear hrr RA8 RB8
    have BZ9 := BZ8.below hbe hg5.2; clear BZ8
    have hap5 : g5 < lo5 ∨ hi5 ≤ g5 := .inl (by omega)
    replace hg5 : w4.heap.size ≤ g5 ∧ g5 < X5_9.heap.size := ⟨hg5.1, by omega⟩
    clear hbe
    have E9_0 := BX1_4.below hv9 (by omega)
    obtain ⟨z9_0_0, z9_0_1⟩ := E9_0.cells
    have E9_1 := BX2_4.below hv9 (by omega)
    obtain ⟨z9_1_0, z9_1_1⟩ := E9_1.cells
    have hS9 : X5_9.cell? ⟨w.heap.size, 0, none⟩ = some (.int .i64 d0.depth) ∧ X5_9.cell? ⟨w.heap.size, 1, none⟩ = some (.slice A0 d0.rows.length c0) ∧ X5_9.cell? ⟨(w.heap.size + 1), 0, none⟩ = some (.int .i64 d1.depth) ∧ X5_9.cell? ⟨(w.heap.size + 1), 1, none⟩ = some (.slice A1 d1.rows.length c1) := ⟨z9_0_0, z9_0_1, z9_1_0, z9_1_1⟩
    clear z9_0_0 z9_0_1 z9_1_0 z9_1_1 E9_0 E9_1
    refine hK.out _ _ ⟨fun _ => hS9, ?_⟩
    clear hK K
    try simp only [List.getElem_toArray, List.getElem_cons_succ, List.getElem_cons_zero, Act.put, List.setIfInBounds_toArray, List.set_cons_zero, List.set_cons_succ]
    refine anyU_take (i := 5) (v := .tuple #[.agg #[.int .i64 (mergeS d0 d1).1.depth, .slice Ar5 (mergeS d0 d1).1.rows.length cr5], .bool (mergeS d0 d1).2]) rfl (by kernel_rfl) (by kernel_rfl) (by kernel_rfl) (fun _ _ _ h => h) ⟨by rfl, fun w' hS' => (by obtain ⟨k1, k2, k3, k4⟩ := hS'; go_simp)⟩ hS9 ?_
    simp only [List.getElem_toArray, List.getElem_cons_succ, List.getElem_cons_zero, Act.put, List.setIfInBounds_toArray, List.set_cons_zero, List.set_cons_succ]
    refine anyU_take (i := 6) (v := .agg #[.int .i64 (mergeS d0 d1).1.depth, .slice Ar5 (mergeS d0 d1).1.rows.length cr5]) rfl (by kernel_rfl) (by kernel_rfl) (by kernel_rfl) (fun _ _ _ h => h) ⟨by rfl, fun w' hS' => (by obtain ⟨k1, k2, k3, k4⟩ := hS'; go_simp)⟩ hS9 ?_
    simp only [List.getElem_toArray, List.getElem_cons_succ, List.getElem_cons_zero, Act.put, List.setIfInBounds_toArray, List.set_cons_zero, List.set_cons_succ]
    refine anyU_take (i := 7) (v := .bool (mergeS d0 d1).2) rfl (by kernel_rfl) (by kernel_rfl) (by kernel_rfl) (fun _ _ _ h => h) ⟨by rfl, fun w' hS' => (by obtain ⟨k1, k2, k3, k4⟩ := hS'; go_simp)⟩ hS9 ?_
    simp only [List.getElem_toArray, List.getElem_cons_succ, List.getElem_cons_zero, Act.put, List.setIfInBounds_toArray, List.set_cons_zero, List.set_cons_succ]
    have hzf := (BZ9 : BoxN X5_9 g5 #[.int .i64 0, .slice none 0 0] 28).frozen
    obtain ⟨zz0, zz1⟩ := BZ9.cells
    have hT5 : Turned g5 (g5 + 1) X5_9 ((X5_9.setCell ⟨g5, 0, none⟩ (.int .i64 (mergeS d0 d1).1.depth)).setCell ⟨g5, 1, none⟩ (.slice Ar5 (mergeS d0 d1).1.rows.length cr5)) := (((Turned.refl g5 (g5 + 1) X5_9).setCell (p := ⟨g5, 0, none⟩) (Nat.le_refl _) (Nat.lt_succ_self _) _).setCell (p := ⟨g5, 1, none⟩) (Nat.le_refl _) (Nat.lt_succ_self _) _)
    have hbz5 : Below w4.heap.size w4 ((X5_9.setCell ⟨g5, 0, none⟩ (.int .i64 (mergeS d0 d1).1.depth)).setCell ⟨g5, 1, none⟩ (.slice Ar5 (mergeS d0 d1).1.rows.length cr5)) := hv9.trans ((hT5.below (by omega)).mono hg5.1)
    have EY_0 := BX1_4.below hbz5 (by omega)
    obtain ⟨zY_0_0, zY_0_1⟩ := EY_0.cells
    have EY_1 := BX2_4.below hbz5 (by omega)
    obtain ⟨zY_1_0, zY_1_1⟩ := EY_1.cells
    have hSY : ((X5_9.setCell ⟨g5, 0, none⟩ (.int .i64 (mergeS d0 d1).1.depth)).setCell ⟨g5, 1, none⟩ (.slice Ar5 (mergeS d0 d1).1.rows.length cr5)).cell? ⟨w.heap.size, 0, none⟩ = some (.int .i64 d0.depth) ∧ ((X5_9.setCell ⟨g5, 0, none⟩ (.int .i64 (mergeS d0 d1).1.depth)).setCell ⟨g5, 1, none⟩ (.slice Ar5 (mergeS d0 d1).1.rows.length cr5)).cell? ⟨w.heap.size, 1, none⟩ = some (.slice A0 d0.rows.length c0) ∧ ((X5_9.setCell ⟨g5, 0, none⟩ (.int .i64 (mergeS d0 d1).1.depth)).setCell ⟨g5, 1, none⟩ (.slice Ar5 (mergeS d0 d1).1.rows.length cr5)).cell? ⟨(w.heap.size + 1), 0, none⟩ = some (.int .i64 d1.depth) ∧ ((X5_9.setCell ⟨g5, 0, none⟩ (.int .i64 (mergeS d0 d1).1.depth)).setCell ⟨g5, 1, none⟩ (.slice Ar5 (mergeS d0 d1).1.rows.length cr5)).cell? ⟨(w.heap.size + 1), 1, none⟩ = some (.slice A1 d1.rows.length c1) := ⟨zY_0_0, zY_0_1, zY_1_0, zY_1_1⟩
    clear zY_0_0 zY_0_1 zY_1_0 zY_1_1 EY_0 EY_1
    refine anyU_ready (rs := [9]) (by kernel_rfl) (by simp) ?_
    refine ReadyU.cons (i := 9) rfl (fun K hK => ?_) ReadyU.nil
    simp only [List.getElem_toArray, List.getElem_cons_succ, List.getElem_cons_zero]
    refine ite_is (by rfl) ?_
    simp [go_sem, zz0, zz1, hzf]
    refine hK.out _ _ ⟨fun _ => hSY, ?_⟩
    clear hK K
    try simp only [List.getElem_toArray, List.getElem_cons_succ, List.getElem_cons_zero, Act.put, List.setIfInBounds_toArray, List.set_cons_zero, List.set_cons_succ]
    refine nameU ?_
    intro w5 HY5
    rw [← HY5.out] at hT5 hbz5 hSY
    have R5_0 := Lib.hid (Tab.turned RR9.out hT5 hhi5 (by omega))
    have BXR5 : Box2 w5 g5 28 (.int .i64 (mergeS d0 d1).1.depth) (.slice Ar5 (mergeS d0 d1).1.rows.length cr5) := by rw [HY5.out]; exact box_store BZ9
    have hsY5 := hT5.size
    clear HY5 hT5 hzf zz0 zz1 BZ9 RR9
    refine anyU_ready (rs := [10]) (by kernel_rfl) (by simp) ?_
    refine ReadyU.cons (i := 10) rfl (fun K hK => ?_) ReadyU.nil
    simp only [List.getElem_toArray, List.getElem_cons_succ, List.getElem_cons_zero]
    refine ite_is (by rfl) ?_
    simp [go_sem]
    refine hK.out _ _ ⟨fun h => absurd h (by decide), ?_⟩
    clear hK K
    try simp only [List.getElem_toArray, List.getElem_cons_succ, List.getElem_cons_zero, Act.put, List.setIfInBounds_toArray, List.set_cons_zero, List.set_cons_succ]
    clear hSY
    refine anyU_done (by kernel_rfl) ?_ _
    rotate_left
    simp only [List.getElem_toArray, List.getElem_cons_succ, List.getElem_cons_zero]
    refine ite_is (by rfl) ?_
    simp [go_sem]
    have hv10 : Below w4.heap.size w4 (V5.alloc (.cells #[.int .i64 0, .slice none 0 0] 28)) := hv0.alloc hsz0 _
    have E10_0 := BX1_4.below hv10 (by omega)
    obtain ⟨z10_0_0, z10_0_1⟩ := E10_0.cells
    have E10_1 := BX2_4.below hv10 (by omega)
    obtain ⟨z10_1_0, z10_1_1⟩ := E10_1.cells
    have hS10 : (V5.alloc (.cells #[.int .i64 0, .slice none 0 0] 28)).cell? ⟨w.heap.size, 0, none⟩ = some (.int .i64 d0.depth) ∧ (V5.alloc (.cells #[.int .i64 0, .slice none 0 0] 28)).cell? ⟨w.heap.size, 1, none⟩ = some (.slice A0 d0.rows.length c0) ∧ (V5.alloc (.cells #[.int .i64 0, .slice none 0 0] 28)).cell? ⟨(w.heap.size + 1), 0, none⟩ = some (.int .i64 d1.depth) ∧ (V5.alloc (.cells #[.int .i64 0, .slice none 0 0] 28)).cell? ⟨(w.heap.size + 1), 1, none⟩ = some (.slice A1 d1.rows.length c1) := ⟨z10_0_0, z10_0_1, z10_1_0, z10_1_1⟩
    clear z10_0_0 z10_0_1 z10_1_0 z10_1_1 E10_0 E10_1
    refine hK.out _ _ ⟨fun _ => hS10, ?_⟩
    clear hK K
    try simp only [List.getElem_toArray, List.getElem_cons_succ, List.getElem_cons_zero, Act.put, List.setIfInBounds_toArray, List.set_cons_zero, List.set_cons_succ]
    refine nameU ?_
    intro X5_10 HX10
    obtain ⟨g5, HG10⟩ : ∃ g, Hid (V5.heap.size = g) := ⟨_, Lib.hid rfl⟩
    rw [HG10.out]
    rw [← HX10.out] at hv10 hS10
    have hsz10 := hv10.size
    have hse10 : V5.heap.size ≤ X5_10.heap.size := by rw [HX10.out]; simp
    have hg5 : w4.heap.size ≤ g5 ∧ g5 < X5_10.heap.size := ⟨by rw [← HG10.out]; exact hsz0, by rw [← HG10.out, HX10.out]; simp⟩
    have BZ10 : Box2 X5_10 g5 28 (.int .i64 0) (.slice none 0 0) := by rw [← HG10.out, HX10.out]; exact Box2.new _ _ _ _
    have hbx10 : Below V5.heap.size V5 X5_10 := by rw [HX10.out]; exact below_a1 _ _
    clear HX10 hbx10
    refine anyU_ready (rs := [1]) (by kernel_rfl) (by simp) ?_
    refine ReadyU.cons (i := 1) rfl (fun K hK => ?_) ReadyU.nil
    simp only [List.getElem_toArray, List.getElem_cons_succ, List.getElem_cons_zero]
    refine ite_is (by rfl) ?_
    simp [go_sem]
    refine (toTable_any _ d0 _ _ _ (Tab.below H0.out (hbw4.trans (hv10.mono (by omega))) (Nat.le_refl _)) (by omega) (by omega)).mono ?_
    rintro e X5_11 ⟨ra5, rfl, hra, hbe⟩
    have hv11 : Below w4.heap.size w4 X5_11 := hv10.trans (hbe.mono hv10.size)
    have hsz11 := hv11.size
    have hse11 := hbe.size
    have RA11 := Lib.hid hra
    obtain ⟨Ara5, cra5, rfl, _⟩ := hra.parts
    clear hra
    have BZ11 := BZ10.below hbe hg5.2; clear BZ10
    replace hg5 : w4.heap.size ≤ g5 ∧ g5 < X5_11.heap.size := ⟨hg5.1, by omega⟩
    clear hbe
    have E11_0 := BX1_4.below hv11 (by omega)
    obtain ⟨z11_0_0, z11_0_1⟩ := E11_0.cells
    have E11_1 := BX2_4.below hv11 (by omega)
    obtain ⟨z11_1_0, z11_1_1⟩ := E11_1.cells
    have hS11 : X5_11.cell? ⟨w.heap.size, 0, none⟩ = some (.int .i64 d0.depth) ∧ X5_11.cell? ⟨w.heap.size, 1, none⟩ = some (.slice A0 d0.rows.length c0) ∧ X5_11.cell? ⟨(w.heap.size + 1), 0, none⟩ = some (.int .i64 d1.depth) ∧ X5_11.cell? ⟨(w.heap.size + 1), 1, none⟩ = some (.slice A1 d1.rows.length c1) := ⟨z11_0_0, z11_0_1, z11_1_0, z11_1_1⟩
    clear z11_0_0 z11_0_1 z11_1_0 z11_1_1 E11_0 E11_1
    refine hK.out _ _ ⟨fun _ => hS11, ?_⟩
    clear hK K
    try simp only [List.getElem_toArray, List.getElem_cons_succ, List.getElem_cons_zero, Act.put, List.setIfInBounds_toArray, List.set_cons_zero, List.set_cons_succ]
    refine anyU_ready (rs := [3]) (by kernel_rfl) (by simp) ?_
    refine ReadyU.cons (i := 3) rfl (fun K hK => ?_) ReadyU.nil
    simp only [List.getElem_toArray, List.getElem_cons_succ, List.getElem_cons_zero]
    refine ite_is (by rfl) ?_
    simp [go_sem]
    refine (toTable_any _ d1 _ _ _ (Tab.below H1.out (hbw4.trans (hv11.mono (by omega))) (Nat.le_refl _)) (by omega) (by omega)).mono ?_
    rintro e X5_12 ⟨rb5, rfl, hrb, hbe⟩
    have hv12 : Below w4.heap.size w4 X5_12 := hv11.trans (hbe.mono hv11.size)
    have hsz12 := hv12.size
    have hse12 := hbe.size
    have RA12 := Lib.hid (Tab.below RA11.out hbe (by omega)); clear RA11
    have RB12 := Lib.hid hrb
    obtain ⟨Arb5, crb5, rfl, _⟩ := hrb.parts
    clear hrb
    have BZ12 := BZ11.below hbe hg5.2; clear BZ11
    replace hg5 : w4.heap.size ≤ g5 ∧ g5 < X5_12.heap.size := ⟨hg5.1, by omega⟩
    clear hbe
    have E12_0 := BX1_4.below hv12 (by omega)
    obtain ⟨z12_0_0, z12_0_1⟩ := E12_0.cells
    have E12_1 := BX2_4.below hv12 (by omega)
    obtain ⟨z12_1_0, z12_1_1⟩ := E12_1.cells
    have hS12 : X5_12.cell? ⟨w.heap.size, 0, none⟩ = some (.int .i64 d0.depth) ∧ X5_12.cell? ⟨w.heap.size, 1, none⟩ = some (.slice A0 d0.rows.length c0) ∧ X5_12.cell? ⟨(w.heap.size + 1), 0, none⟩ = some (.int .i64 d1.depth) ∧ X5_12.cell? ⟨(w.heap.size + 1), 1, none⟩ = some (.slice A1 d1.rows.length c1) := ⟨z12_0_0, z12_0_1, z12_1_0, z12_1_1⟩
    clear z12_0_0 z12_0_1 z12_1_0 z12_1_1 E12_0 E12_1
    refine hK.out _ _ ⟨fun _ => hS12, ?_⟩
    clear hK K
    try simp only [List.getElem_toArray, List.getElem_cons_succ, List.getElem_cons_zero, Act.put, List.setIfInBounds_toArray, List.set_cons_zero, List.set_cons_succ]
    refine anyU_ready (rs := [4]) (by kernel_rfl) (by simp) ?_
    refine ReadyU.cons (i := 4) rfl (fun K hK => ?_) ReadyU.nil
    simp only [List.getElem_toArray, List.getElem_cons_succ, List.getElem_cons_zero]
    refine ite_is (by rfl) ?_
    simp [go_sem]
    refine (MergeTables_spec _ d0 _ _ _ d1 _ _ _ RA12.out (by omega) RB12.out (by omega) (by omega) (by omega) I0.out I1.out).mono ?_
    rintro e X5_13 ⟨r5, rfl, hrr, hbe⟩
    have hv13 : Below w4.heap.size w4 X5_13 := hv12.trans (hbe.mono hv12.size)
    have hsz13 := hv13.size
    have hse13 := hbe.size
    obtain ⟨Ar5, cr5, rfl, _⟩ := hrr.parts
    obtain ⟨lo5, hi5, RR13, hlo5, hlw5, hhi5⟩ : ∃ lo hi, Hid (Tab X5_13 lo hi (.agg #[.int .i64 (mergeS d0 d1).1.depth, .slice Ar5 (mergeS d0 d1).1.rows.length cr5]) (mergeS d0 d1).1) ∧ w4.heap.size ≤ lo ∧ X5_12.heap.size ≤ lo ∧ hi ≤ X5_13.heap.size := ⟨_, _, Lib.hid hrr, by omega, Nat.le_refl _, Nat.le_refl _⟩
    clear hrr RA12 RB12
    have BZ13 := BZ12.below hbe hg5.2; clear BZ12
    have hap5 : g5 < lo5 ∨ hi5 ≤ g5 := .inl (by omega)
    replace hg5 : w4.heap.size ≤ g5 ∧ g5 < X5_13.heap.size := ⟨hg5.1, by omega⟩
    clear hbe
    have E13_0 := BX1_4.below hv13 (by omega)
    obtain ⟨z13_0_0, z13_0_1⟩ := E13_0.cells
    have E13_1 := BX2_4.below hv13 (by omega)
    obtain ⟨z13_1_0, z13_1_1⟩ := E13_1.cells
    have hS13 : X5_13.cell? ⟨w.heap.size, 0, none⟩ = some (.int .i64 d0.depth) ∧ X5_13.cell? ⟨w.heap.size, 1, none⟩ = some (.slice A0 d0.rows.length c0) ∧ X5_13.cell? ⟨(w.heap.size + 1), 0, none⟩ = some (.int .i64 d1.depth) ∧ X5_13.cell? ⟨(w.heap.size + 1), 1, none⟩ = some (.slice A1 d1.rows.length c1) := ⟨z13_0_0, z13_0_1, z13_1_0, z13_1_1⟩
    clear z13_0_0 z13_0_1 z13_1_0 z13_1_1 E13_0 E13_1
    refine hK.out _ _ ⟨fun _ => hS13, ?_⟩
    clear hK K
    try simp only [List.getElem_toArray, List.getElem_cons_succ, List.getElem_cons_zero, Act.put, List.setIfInBounds_toArray, List.set_cons_zero, List.set_cons_succ]
    refine anyU_take (i := 5) (v := .tuple #[.agg #[.int .i64 (mergeS d0 d1).1.depth, .slice Ar5 (mergeS d0 d1).1.rows.length cr5], .bool (mergeS d0 d1).2]) rfl (by kernel_rfl) (by kernel_rfl) (by kernel_rfl) (fun _ _ _ h => h) ⟨by rfl, fun w' hS' => (by obtain ⟨k1, k2, k3, k4⟩ := hS'; go_simp)⟩ hS13 ?_
    simp only [List.getElem_toArray, List.getElem_cons_succ, List.getElem_cons_zero, Act.put, List.setIfInBounds_toArray, List.set_cons_zero, List.set_cons_succ]
    refine anyU_take (i := 6) (v := .agg #[.int .i64 (mergeS d0 d1).1.depth, .slice Ar5 (mergeS d0 d1).1.rows.length cr5]) rfl (by kernel_rfl) (by kernel_rfl) (by kernel_rfl) (fun _ _ _ h => h) ⟨by rfl, fun w' hS' => (by obtain ⟨k1, k2, k3, k4⟩ := hS'; go_simp)⟩ hS13 ?_
    simp only [List.getElem_toArray, List.getElem_cons_succ, List.getElem_cons_zero, Act.put, List.setIfInBounds_toArray, List.set_cons_zero, List.set_cons_succ]
    refine anyU_take (i := 7) (v := .bool (mergeS d0 d1).2) rfl (by kernel_rfl) (by kernel_rfl) (by kernel_rfl) (fun _ _ _ h => h) ⟨by rfl, fun w' hS' => (by obtain ⟨k1, k2, k3, k4⟩ := hS'; go_simp)⟩ hS13 ?_
    simp only [List.getElem_toArray, List.getElem_cons_succ, List.getElem_cons_zero, Act.put, List.setIfInBounds_toArray, List.set_cons_zero, List.set_cons_succ]
    have hzf := (BZ13 : BoxN X5_13 g5 #[.int .i64 0, .slice none 0 0] 28).frozen
    obtain ⟨zz0, zz1⟩ := BZ13.cells
    have hT5 : Turned g5 (g5 + 1) X5_13 ((X5_13.setCell ⟨g5, 0, none⟩ (.int .i64 (mergeS d0 d1).1.depth)).setCell ⟨g5, 1, none⟩ (.slice Ar5 (mergeS d0 d1).1.rows.length cr5)) := (((Turned.refl g5 (g5 + 1) X5_13).setCell (p := ⟨g5, 0, none⟩) (Nat.le_refl _) (Nat.lt_succ_self _) _).setCell (p := ⟨g5, 1, none⟩) (Nat.le_refl _) (Nat.lt_succ_self _) _)
    have hbz5 : Below w4.heap.size w4 ((X5_13.setCell ⟨g5, 0, none⟩ (.int .i64 (mergeS d0 d1).1.depth)).setCell ⟨g5, 1, none⟩ (.slice Ar5 (mergeS d0 d1).1.rows.length cr5)) := hv13.trans ((hT5.below (by omega)).mono hg5.1)
    have EY_0 := BX1_4.below hbz5 (by omega)
    obtain ⟨zY_0_0, zY_0_1⟩ := EY_0.cells
    have EY_1 := BX2_4.below hbz5 (by omega)
    obtain ⟨zY_1_0, zY_1_1⟩ := EY_1.cells
    have hSY : ((X5_13.setCell ⟨g5, 0, none⟩ (.int .i64 (mergeS d0 d1).1.depth)).setCell ⟨g5, 1, none⟩ (.slice Ar5 (mergeS d0 d1).1.rows.length cr5)).cell? ⟨w.heap.size, 0, none⟩ = some (.int .i64 d0.depth) ∧ ((X5_13.setCell ⟨g5, 0, none⟩ (.int .i64 (mergeS d0 d1).1.depth)).setCell ⟨g5, 1, none⟩ (.slice Ar5 (mergeS d0 d1).1.rows.length cr5)).cell? ⟨w.heap.size, 1, none⟩ = some (.slice A0 d0.rows.length c0) ∧ ((X5_13.setCell ⟨g5, 0, none⟩ (.int .i64 (mergeS d0 d1).1.depth)).setCell ⟨g5, 1, none⟩ (.slice Ar5 (mergeS d0 d1).1.rows.length cr5)).cell? ⟨(w.heap.size + 1), 0, none⟩ = some (.int .i64 d1.depth) ∧ ((X5_13.setCell ⟨g5, 0, none⟩ (.int .i64 (mergeS d0 d1).1.depth)).setCell ⟨g5, 1, none⟩ (.slice Ar5 (mergeS d0 d1).1.rows.length cr5)).cell? ⟨(w.heap.size + 1), 1, none⟩ = some (.slice A1 d1.rows.length c1) := ⟨zY_0_0, zY_0_1, zY_1_0, zY_1_1⟩
    clear zY_0_0 zY_0_1 zY_1_0 zY_1_1 EY_0 EY_1
    refine anyU_ready (rs := [9]) (by kernel_rfl) (by simp) ?_
    refine ReadyU.cons (i := 9) rfl (fun K hK => ?_) ReadyU.nil
    simp only [List.getElem_toArray, List.getElem_cons_succ, List.getElem_cons_zero]
    refine ite_is (by rfl) ?_
    simp [go_sem, zz0, zz1, hzf]
    refine hK.out _ _ ⟨fun _ => hSY, ?_⟩
    clear hK K
    try simp only [List.getElem_toArray, List.getElem_cons_succ, List.getElem_cons_zero, Act.put, List.setIfInBounds_toArray, List.set_cons_zero, List.set_cons_succ]
    refine nameU ?_
    intro w5 HY5
    rw [← HY5.out] at hT5 hbz5 hSY
    have R5_0 := Lib.hid (Tab.turned RR13.out hT5 hhi5 (by omega))
    have BXR5 : Box2 w5 g5 28 (.int .i64 (mergeS d0 d1).1.depth) (.slice Ar5 (mergeS d0 d1).1.rows.length cr5) := by rw [HY5.out]; exact box_store BZ13
    have hsY5 := hT5.size
    clear HY5 hT5 hzf zz0 zz1 BZ13 RR13
    refine anyU_ready (rs := [10]) (by kernel_rfl) (by simp) ?_
    refine ReadyU.cons (i := 10) rfl (fun K hK => ?_) ReadyU.nil
    simp only [List.getElem_toArray, List.getElem_cons_succ, List.getElem_cons_zero]
    refine ite_is (by rfl) ?_
    simp [go_sem]
    refine hK.out _ _ ⟨fun h => absurd h (by decide), ?_⟩
    clear hK K
    try simp only [List.getElem_toArray, List.getElem_cons_succ, List.getElem_cons_zero, Act.put, List.setIfInBounds_toArray, List.set_cons_zero, List.set_cons_succ]
    clear hSY
    refine anyU_done (by kernel_rfl) ?_ _
    rotate_left
    all_goals
      have hs5 := hbz5.size
      have hbw5 := hbw4.trans (hbz5.mono (by omega))
      clear hbw4
      have BX1_5 := BX1_4.below hbz5 (by omega); clear BX1_4
      have BX2_5 := BX2_4.below hbz5 (by omega); clear BX2_4
      replace hhi5 : hi5 ≤ w5.heap.size := by omega
      replace hg5 : w4.heap.size ≤ g5 ∧ g5 < w5.heap.size := ⟨hg5.1, by omega⟩
      obtain ⟨kc0_0, kc0_1⟩ := BX1_5.cells
      obtain ⟨kc1_0, kc1_1⟩ := BX2_5.cells
      obtain ⟨kc2_0, kc2_1⟩ := BXR5.cells
      go_wp2_with fail
      clear kc0_0 kc0_1 kc1_0 kc1_1 kc2_0 kc2_1
      refine (toTable_any _ d0 _ _ _ (Tab.below H0.out hbw5 (Nat.le_refl _)) (by omega) (by omega)).mono ?_
      rintro e w6 ⟨r6, rfl, hr6, hb6⟩
      have hs6 := hb6.size
      have hbw6 := hbw5.trans (hb6.mono (by omega))
      clear hbw5
      have R5_0_6 := Lib.hid (Tab.below R5_0.out hb6 (by omega)); clear R5_0
      have BX1_6 := BX1_5.below hb6 (by omega); clear BX1_5
      have BX2_6 := BX2_5.below hb6 (by omega); clear BX2_5
      have BXR5_6 := BXR5.below hb6 (by omega); clear BXR5
      have R6 := Lib.hid hr6
      obtain ⟨Ar6, cr6, rfl, _⟩ := hr6.parts
      clear hr6
      obtain ⟨w7, HW7⟩ : ∃ W, Hid (W = w6.alloc (.cells #[.int .i64 d0.depth, .slice Ar6 d0.rows.length cr6] 28)) := ⟨_, Lib.hid rfl⟩
      have hb7 : Below w6.heap.size w6 w7 := by rw [HW7.out]; exact below_a1 _ _
      have hz7 : w6.heap.size + 1 ≤ w7.heap.size := by rw [HW7.out]; simp
      have hs7 := hb7.size
      have hbw7 := hbw6.trans (hb7.mono (by omega))
      clear hbw6
      have R5_0_7 := Lib.hid (Tab.below R5_0_6.out hb7 (by omega)); clear R5_0_6
      have R6_7 := Lib.hid (Tab.below R6.out hb7 (by omega)); clear R6
      have BX1_7 := BX1_6.below hb7 (by omega); clear BX1_6
      have BX2_7 := BX2_6.below hb7 (by omega); clear BX2_6
      have BXR5_7 := BXR5_6.below hb7 (by omega); clear BXR5_6
      have BX7 : Box2 w7 w6.heap.size 28 (.int .i64 d0.depth) (.slice Ar6 d0.rows.length cr6) := by rw [HW7.out]; exact Box2.new _ _ _ _
      obtain ⟨kc0_0, kc0_1⟩ := BX1_7.cells
      obtain ⟨kc1_0, kc1_1⟩ := BX2_7.cells
      obtain ⟨kc2_0, kc2_1⟩ := BXR5_7.cells
      obtain ⟨kc3_0, kc3_1⟩ := BX7.cells
      have kc0_0p := kc0_0; rw [HW7.out] at kc0_0p
      have kc0_1p := kc0_1; rw [HW7.out] at kc0_1p
      have kc1_0p := kc1_0; rw [HW7.out] at kc1_0p
      have kc1_1p := kc1_1; rw [HW7.out] at kc1_1p
      have kc2_0p := kc2_0; rw [HW7.out] at kc2_0p
      have kc2_1p := kc2_1; rw [HW7.out] at kc2_1p
      have kc3_0p := kc3_0; rw [HW7.out] at kc3_0p
      have kc3_1p := kc3_1; rw [HW7.out] at kc3_1p
      go_wp2_with fail
      rw [← HW7.out]; clear HW7
      clear kc0_0 kc0_1 kc1_0 kc1_1 kc2_0 kc2_1 kc3_0 kc3_1 kc0_0p kc0_1p kc1_0p kc1_1p kc2_0p kc2_1p kc3_0p kc3_1p
      refine (toTable_any _ d1 _ _ _ (Tab.below H1.out hbw7 (Nat.le_refl _)) (by omega) (by omega)).mono ?_
      rintro e w8 ⟨r8, rfl, hr8, hb8⟩
      have hs8 := hb8.size
      have hbw8 := hbw7.trans (hb8.mono (by omega))
      clear hbw7
      have R5_0_8 := Lib.hid (Tab.below R5_0_7.out hb8 (by omega)); clear R5_0_7
      have R6_8 := Lib.hid (Tab.below R6_7.out hb8 (by omega)); clear R6_7
      have BX1_8 := BX1_7.below hb8 (by omega); clear BX1_7
      have BX2_8 := BX2_7.below hb8 (by omega); clear BX2_7
      have BXR5_8 := BXR5_7.below hb8 (by omega); clear BXR5_7
      have BX7_8 := BX7.below hb8 (by omega); clear BX7
      have R8 := Lib.hid hr8
      obtain ⟨Ar8, cr8, rfl, _⟩ := hr8.parts
      clear hr8
      obtain ⟨w9, HW9⟩ : ∃ W, Hid (W = w8.alloc (.cells #[.int .i64 d1.depth, .slice Ar8 d1.rows.length cr8] 28)) := ⟨_, Lib.hid rfl⟩
      have hb9 : Below w8.heap.size w8 w9 := by rw [HW9.out]; exact below_a1 _ _
      have hz9 : w8.heap.size + 1 ≤ w9.heap.size := by rw [HW9.out]; simp
      have hs9 := hb9.size
      have hbw9 := hbw8.trans (hb9.mono (by omega))
      clear hbw8
      have R5_0_9 := Lib.hid (Tab.below R5_0_8.out hb9 (by omega)); clear R5_0_8
      have R6_9 := Lib.hid (Tab.below R6_8.out hb9 (by omega)); clear R6_8
      have R8_9 := Lib.hid (Tab.below R8.out hb9 (by omega)); clear R8
      have BX1_9 := BX1_8.below hb9 (by omega); clear BX1_8
      have BX2_9 := BX2_8.below hb9 (by omega); clear BX2_8
      have BXR5_9 := BXR5_8.below hb9 (by omega); clear BXR5_8
      have BX7_9 := BX7_8.below hb9 (by omega); clear BX7_8
      have BX9 : Box2 w9 w8.heap.size 28 (.int .i64 d1.depth) (.slice Ar8 d1.rows.length cr8) := by rw [HW9.out]; exact Box2.new _ _ _ _
      obtain ⟨kc0_0, kc0_1⟩ := BX1_9.cells
      obtain ⟨kc1_0, kc1_1⟩ := BX2_9.cells
      obtain ⟨kc2_0, kc2_1⟩ := BXR5_9.cells
      obtain ⟨kc3_0, kc3_1⟩ := BX7_9.cells
      obtain ⟨kc4_0, kc4_1⟩ := BX9.cells
      have kc0_0p := kc0_0; rw [HW9.out] at kc0_0p
      have kc0_1p := kc0_1; rw [HW9.out] at kc0_1p
      have kc1_0p := kc1_0; rw [HW9.out] at kc1_0p
      have kc1_1p := kc1_1; rw [HW9.out] at kc1_1p
      have kc2_0p := kc2_0; rw [HW9.out] at kc2_0p
      have kc2_1p := kc2_1; rw [HW9.out] at kc2_1p
      have kc3_0p := kc3_0; rw [HW9.out] at kc3_0p
      have kc3_1p := kc3_1; rw [HW9.out] at kc3_1p
      have kc4_0p := kc4_0; rw [HW9.out] at kc4_0p
      have kc4_1p := kc4_1; rw [HW9.out] at kc4_1p
      go_wp2_with fail
      rw [← HW9.out]; clear HW9
      clear kc0_0 kc0_1 kc1_0 kc1_1 kc2_0 kc2_1 kc3_0 kc3_1 kc4_0 kc4_1 kc0_0p kc0_1p kc1_0p kc1_1p kc2_0p kc2_1p kc3_0p kc3_1p kc4_0p kc4_1p
      refine (MergeTables_impl _ d0 _ _ _ d1 _ _ _ R6_9.out (by omega) R8_9.out (by omega) (by omega) (by omega) I0.out I1.out).mono ?_
      rintro e w10 ⟨r10_0, rfl, hr10_0, hb10⟩
      have hs10 := hb10.size
      have hbw10 := hbw9.trans (hb10.mono (by omega))
      clear hbw9
      have R5_0_10 := Lib.hid (Tab.below R5_0_9.out hb10 (by omega)); clear R5_0_9
      have R6_10 := Lib.hid (Tab.below R6_9.out hb10 (by omega)); clear R6_9
      have R8_10 := Lib.hid (Tab.below R8_9.out hb10 (by omega)); clear R8_9
      have BX1_10 := BX1_9.below hb10 (by omega); clear BX1_9
      have BX2_10 := BX2_9.below hb10 (by omega); clear BX2_9
      have BXR5_10 := BXR5_9.below hb10 (by omega); clear BXR5_9
      have BX7_10 := BX7_9.below hb10 (by omega); clear BX7_9
      have BX9_10 := BX9.below hb10 (by omega); clear BX9
      have R10_0 := Lib.hid hr10_0
      obtain ⟨Ar10_0, cr10_0, rfl, _⟩ := hr10_0.parts
      clear hr10_0
      obtain ⟨w11, HW11⟩ : ∃ W, Hid (W = w10.alloc (.cells #[.int .i64 (mergeS d0 d1).1.depth, .slice Ar10_0 (mergeS d0 d1).1.rows.length cr10_0] 28)) := ⟨_, Lib.hid rfl⟩
      have hb11 : Below w10.heap.size w10 w11 := by rw [HW11.out]; exact below_a1 _ _
      have hz11 : w10.heap.size + 1 ≤ w11.heap.size := by rw [HW11.out]; simp
      have hs11 := hb11.size
      have hbw11 := hbw10.trans (hb11.mono (by omega))
      clear hbw10
      have R5_0_11 := Lib.hid (Tab.below R5_0_10.out hb11 (by omega)); clear R5_0_10
      have R6_11 := Lib.hid (Tab.below R6_10.out hb11 (by omega)); clear R6_10
      have R8_11 := Lib.hid (Tab.below R8_10.out hb11 (by omega)); clear R8_10
      have R10_0_11 := Lib.hid (Tab.below R10_0.out hb11 (by omega)); clear R10_0
      have BX1_11 := BX1_10.below hb11 (by omega); clear BX1_10
      have BX2_11 := BX2_10.below hb11 (by omega); clear BX2_10
      have BXR5_11 := BXR5_10.below hb11 (by omega); clear BXR5_10
      have BX7_11 := BX7_10.below hb11 (by omega); clear BX7_10
      have BX9_11 := BX9_10.below hb11 (by omega); clear BX9_10
      have BX11 : Box2 w11 w10.heap.size 28 (.int .i64 (mergeS d0 d1).1.depth) (.slice Ar10_0 (mergeS d0 d1).1.rows.length cr10_0) := by rw [HW11.out]; exact Box2.new _ _ _ _
      obtain ⟨kc0_0, kc0_1⟩ := BX1_11.cells
      obtain ⟨kc1_0, kc1_1⟩ := BX2_11.cells
      obtain ⟨kc2_0, kc2_1⟩ := BXR5_11.cells
      obtain ⟨kc3_0, kc3_1⟩ := BX7_11.cells
      obtain ⟨kc4_0, kc4_1⟩ := BX9_11.cells
      obtain ⟨kc5_0, kc5_1⟩ := BX11.cells
      have kc0_0p := kc0_0; rw [HW11.out] at kc0_0p
      have kc0_1p := kc0_1; rw [HW11.out] at kc0_1p
      have kc1_0p := kc1_0; rw [HW11.out] at kc1_0p
      have kc1_1p := kc1_1; rw [HW11.out] at kc1_1p
      have kc2_0p := kc2_0; rw [HW11.out] at kc2_0p
      have kc2_1p := kc2_1; rw [HW11.out] at kc2_1p
      have kc3_0p := kc3_0; rw [HW11.out] at kc3_0p
      have kc3_1p := kc3_1; rw [HW11.out] at kc3_1p
      have kc4_0p := kc4_0; rw [HW11.out] at kc4_0p
      have kc4_1p := kc4_1; rw [HW11.out] at kc4_1p
      have kc5_0p := kc5_0; rw [HW11.out] at kc5_0p
      have kc5_1p := kc5_1; rw [HW11.out] at kc5_1p
      go_wp2_with fail
      rw [← HW11.out]; clear HW11
      clear kc0_0 kc0_1 kc1_0 kc1_1 kc2_0 kc2_1 kc3_0 kc3_1 kc4_0 kc4_1 kc5_0 kc5_1 kc0_0p kc0_1p kc1_0p kc1_1p kc2_0p kc2_1p kc3_0p kc3_1p kc4_0p kc4_1p kc5_0p kc5_1p
      refine (eqTable_same _ _ (mergeS d0 d1).1 _ _ _ _ _ R10_0_11.out R5_0_11.out (by omega) (by omega)).mono ?_
      rintro e w12 ⟨rfl, hb12⟩
      have hs12 := hb12.size
      have hbw12 := hbw11.trans (hb12.mono (by omega))
      clear hbw11
      have R5_0_12 := Lib.hid (Tab.below R5_0_11.out hb12 (by omega)); clear R5_0_11
      have R6_12 := Lib.hid (Tab.below R6_11.out hb12 (by omega)); clear R6_11
      have R8_12 := Lib.hid (Tab.below R8_11.out hb12 (by omega)); clear R8_11
      have R10_0_12 := Lib.hid (Tab.below R10_0_11.out hb12 (by omega)); clear R10_0_11
      have BX1_12 := BX1_11.below hb12 (by omega); clear BX1_11
      have BX2_12 := BX2_11.below hb12 (by omega); clear BX2_11
      have BXR5_12 := BXR5_11.below hb12 (by omega); clear BXR5_11
      have BX7_12 := BX7_11.below hb12 (by omega); clear BX7_11
      have BX9_12 := BX9_11.below hb12 (by omega); clear BX9_11
      have BX11_12 := BX11.below hb12 (by omega); clear BX11
      obtain ⟨kc0_0, kc0_1⟩ := BX1_12.cells
      obtain ⟨kc1_0, kc1_1⟩ := BX2_12.cells
      obtain ⟨kc2_0, kc2_1⟩ := BXR5_12.cells
      obtain ⟨kc3_0, kc3_1⟩ := BX7_12.cells
      obtain ⟨kc4_0, kc4_1⟩ := BX9_12.cells
      obtain ⟨kc5_0, kc5_1⟩ := BX11_12.cells
      go_wp2_with fail
      have hq13 : w12.heap.size ≤ w12.heap.size := Nat.le_refl _
      go_region_held3 (fun w' => w'.cell? ⟨w.heap.size, 0, none⟩ = some (.int .i64 d0.depth) ∧ w'.cell? ⟨w.heap.size, 1, none⟩ = some (.slice A0 d0.rows.length c0) ∧ w'.cell? ⟨(w.heap.size + 1), 0, none⟩ = some (.int .i64 d1.depth) ∧ w'.cell? ⟨(w.heap.size + 1), 1, none⟩ = some (.slice A1 d1.rows.length c1) ∧ w'.cell? ⟨g5, 0, none⟩ = some (.int .i64 (mergeS d0 d1).1.depth) ∧ w'.cell? ⟨g5, 1, none⟩ = some (.slice Ar5 (mergeS d0 d1).1.rows.length cr5) ∧ w'.cell? ⟨w6.heap.size, 0, none⟩ = some (.int .i64 d0.depth) ∧ w'.cell? ⟨w6.heap.size, 1, none⟩ = some (.slice Ar6 d0.rows.length cr6) ∧ w'.cell? ⟨w8.heap.size, 0, none⟩ = some (.int .i64 d1.depth) ∧ w'.cell? ⟨w8.heap.size, 1, none⟩ = some (.slice Ar8 d1.rows.length cr8) ∧ w'.cell? ⟨w10.heap.size, 0, none⟩ = some (.int .i64 (mergeS d0 d1).1.depth) ∧ w'.cell? ⟨w10.heap.size, 1, none⟩ = some (.slice Ar10_0 (mergeS d0 d1).1.rows.length cr10_0))
        (first | exact ⟨kc0_0, kc0_1, kc1_0, kc1_1, kc2_0, kc2_1, kc3_0, kc3_1, kc4_0, kc4_1, kc5_0, kc5_1⟩ | exact ⟨(hb13.cell (p := ⟨w.heap.size, 0, none⟩) (by show w.heap.size < w12.heap.size; omega)).trans kc0_0, (hb13.cell (p := ⟨w.heap.size, 1, none⟩) (by show w.heap.size < w12.heap.size; omega)).trans kc0_1, (hb13.cell (p := ⟨(w.heap.size + 1), 0, none⟩) (by show (w.heap.size + 1) < w12.heap.size; omega)).trans kc1_0, (hb13.cell (p := ⟨(w.heap.size + 1), 1, none⟩) (by show (w.heap.size + 1) < w12.heap.size; omega)).trans kc1_1, (hb13.cell (p := ⟨g5, 0, none⟩) (by show g5 < w12.heap.size; omega)).trans kc2_0, (hb13.cell (p := ⟨g5, 1, none⟩) (by show g5 < w12.heap.size; omega)).trans kc2_1, (hb13.cell (p := ⟨w6.heap.size, 0, none⟩) (by show w6.heap.size < w12.heap.size; omega)).trans kc3_0, (hb13.cell (p := ⟨w6.heap.size, 1, none⟩) (by show w6.heap.size < w12.heap.size; omega)).trans kc3_1, (hb13.cell (p := ⟨w8.heap.size, 0, none⟩) (by show w8.heap.size < w12.heap.size; omega)).trans kc4_0, (hb13.cell (p := ⟨w8.heap.size, 1, none⟩) (by show w8.heap.size < w12.heap.size; omega)).trans kc4_1, (hb13.cell (p := ⟨w10.heap.size, 0, none⟩) (by show w10.heap.size < w12.heap.size; omega)).trans kc5_0, (hb13.cell (p := ⟨w10.heap.size, 1, none⟩) (by show w10.heap.size < w12.heap.size; omega)).trans kc5_1⟩ | exact ⟨kq13_0, kq13_1, kq13_2, kq13_3, kq13_4, kq13_5, kq13_6, kq13_7, kq13_8, kq13_9, kq13_10, kq13_11⟩)
        (first | (go_at_call 6; refine (toTable_any _ d0 _ _ _ (Tab.below H0.out hbw12.drew (Nat.le_refl _)) (by show _ ≤ w12.heap.size; omega) (by omega)).mono ?_; rintro e w13 ⟨r13, rfl, hr13, hbd13⟩; have hb13 : Below w12.heap.size w12 w13 := (Below.refl _ _).drew.trans hbd13; clear hbd13; have R13 := Lib.hid hr13; obtain ⟨Ar13, cr13, rfl, _⟩ := hr13.parts; clear hr13) | (go_at_call 8; refine (eqTable_same _ _ d0 _ _ _ _ _ (Tab.below (R6_12.out) hb13 (by show _ ≤ w12.heap.size; omega)) (R13.out) (by have := hb13.size; show _ ≤ w13.heap.size; exact Nat.le_trans (by show _ ≤ w12.heap.size; omega) this) (Nat.le_refl _)).mono ?_; rintro e wq13 ⟨rfl, hbq13⟩; have kq13_0 := (hbq13.cell (p := ⟨w.heap.size, 0, none⟩) (by have := hb13.size; show w.heap.size < w13.heap.size; exact Nat.lt_of_lt_of_le (by show w.heap.size < w12.heap.size; omega) this)).trans ((hb13.cell (p := ⟨w.heap.size, 0, none⟩) (by show w.heap.size < w12.heap.size; omega)).trans kc0_0); have kq13_1 := (hbq13.cell (p := ⟨w.heap.size, 1, none⟩) (by have := hb13.size; show w.heap.size < w13.heap.size; exact Nat.lt_of_lt_of_le (by show w.heap.size < w12.heap.size; omega) this)).trans ((hb13.cell (p := ⟨w.heap.size, 1, none⟩) (by show w.heap.size < w12.heap.size; omega)).trans kc0_1); have kq13_2 := (hbq13.cell (p := ⟨(w.heap.size + 1), 0, none⟩) (by have := hb13.size; show (w.heap.size + 1) < w13.heap.size; exact Nat.lt_of_lt_of_le (by show (w.heap.size + 1) < w12.heap.size; omega) this)).trans ((hb13.cell (p := ⟨(w.heap.size + 1), 0, none⟩) (by show (w.heap.size + 1) < w12.heap.size; omega)).trans kc1_0); have kq13_3 := (hbq13.cell (p := ⟨(w.heap.size + 1), 1, none⟩) (by have := hb13.size; show (w.heap.size + 1) < w13.heap.size; exact Nat.lt_of_lt_of_le (by show (w.heap.size + 1) < w12.heap.size; omega) this)).trans ((hb13.cell (p := ⟨(w.heap.size + 1), 1, none⟩) (by show (w.heap.size + 1) < w12.heap.size; omega)).trans kc1_1); have kq13_4 := (hbq13.cell (p := ⟨g5, 0, none⟩) (by have := hb13.size; show g5 < w13.heap.size; exact Nat.lt_of_lt_of_le (by show g5 < w12.heap.size; omega) this)).trans ((hb13.cell (p := ⟨g5, 0, none⟩) (by show g5 < w12.heap.size; omega)).trans kc2_0); have kq13_5 := (hbq13.cell (p := ⟨g5, 1, none⟩) (by have := hb13.size; show g5 < w13.heap.size; exact Nat.lt_of_lt_of_le (by show g5 < w12.heap.size; omega) this)).trans ((hb13.cell (p := ⟨g5, 1, none⟩) (by show g5 < w12.heap.size; omega)).trans kc2_1); have kq13_6 := (hbq13.cell (p := ⟨w6.heap.size, 0, none⟩) (by have := hb13.size; show w6.heap.size < w13.heap.size; exact Nat.lt_of_lt_of_le (by show w6.heap.size < w12.heap.size; omega) this)).trans ((hb13.cell (p := ⟨w6.heap.size, 0, none⟩) (by show w6.heap.size < w12.heap.size; omega)).trans kc3_0); have kq13_7 := (hbq13.cell (p := ⟨w6.heap.size, 1, none⟩) (by have := hb13.size; show w6.heap.size < w13.heap.size; exact Nat.lt_of_lt_of_le (by show w6.heap.size < w12.heap.size; omega) this)).trans ((hb13.cell (p := ⟨w6.heap.size, 1, none⟩) (by show w6.heap.size < w12.heap.size; omega)).trans kc3_1); have kq13_8 := (hbq13.cell (p := ⟨w8.heap.size, 0, none⟩) (by have := hb13.size; show w8.heap.size < w13.heap.size; exact Nat.lt_of_lt_of_le (by show w8.heap.size < w12.heap.size; omega) this)).trans ((hb13.cell (p := ⟨w8.heap.size, 0, none⟩) (by show w8.heap.size < w12.heap.size; omega)).trans kc4_0); have kq13_9 := (hbq13.cell (p := ⟨w8.heap.size, 1, none⟩) (by have := hb13.size; show w8.heap.size < w13.heap.size; exact Nat.lt_of_lt_of_le (by show w8.heap.size < w12.heap.size; omega) this)).trans ((hb13.cell (p := ⟨w8.heap.size, 1, none⟩) (by show w8.heap.size < w12.heap.size; omega)).trans kc4_1); have kq13_10 := (hbq13.cell (p := ⟨w10.heap.size, 0, none⟩) (by have := hb13.size; show w10.heap.size < w13.heap.size; exact Nat.lt_of_lt_of_le (by show w10.heap.size < w12.heap.size; omega) this)).trans ((hb13.cell (p := ⟨w10.heap.size, 0, none⟩) (by show w10.heap.size < w12.heap.size; omega)).trans kc5_0); have kq13_11 := (hbq13.cell (p := ⟨w10.heap.size, 1, none⟩) (by have := hb13.size; show w10.heap.size < w13.heap.size; exact Nat.lt_of_lt_of_le (by show w10.heap.size < w12.heap.size; omega) this)).trans ((hb13.cell (p := ⟨w10.heap.size, 1, none⟩) (by show w10.heap.size < w12.heap.size; omega)).trans kc5_1)))
      clear kc0_0 kc0_1 kc1_0 kc1_1 kc2_0 kc2_1 kc3_0 kc3_1 kc4_0 kc4_1 kc5_0 kc5_1 hq13 kq13_0 kq13_1 kq13_2 kq13_3 kq13_4 kq13_5 kq13_6 kq13_7 kq13_8 kq13_9 kq13_10 kq13_11
      clear R13
      have hbz13 : Below w12.heap.size w12 wq13 := Below.trans hb13 (hbq13.mono hb13.size)
      clear hb13 hbq13
      have hs13 := hbz13.size
      have hbw13 := hbw12.trans (hbz13.mono (by omega))
      clear hbw12
      have R5_0_13 := Lib.hid (Tab.below R5_0_12.out hbz13 (by omega)); clear R5_0_12
      have R6_13 := Lib.hid (Tab.below R6_12.out hbz13 (by omega)); clear R6_12
      have R8_13 := Lib.hid (Tab.below R8_12.out hbz13 (by omega)); clear R8_12
      have R10_0_13 := Lib.hid (Tab.below R10_0_12.out hbz13 (by omega)); clear R10_0_12
      have BX1_13 := BX1_12.below hbz13 (by omega); clear BX1_12
      have BX2_13 := BX2_12.below hbz13 (by omega); clear BX2_12
      have BXR5_13 := BXR5_12.below hbz13 (by omega); clear BXR5_12
      have BX7_13 := BX7_12.below hbz13 (by omega); clear BX7_12
      have BX9_13 := BX9_12.below hbz13 (by omega); clear BX9_12
      have BX11_13 := BX11_12.below hbz13 (by omega); clear BX11_12
      obtain ⟨kc0_0, kc0_1⟩ := BX1_13.cells
      obtain ⟨kc1_0, kc1_1⟩ := BX2_13.cells
      obtain ⟨kc2_0, kc2_1⟩ := BXR5_13.cells
      obtain ⟨kc3_0, kc3_1⟩ := BX7_13.cells
      obtain ⟨kc4_0, kc4_1⟩ := BX9_13.cells
      obtain ⟨kc5_0, kc5_1⟩ := BX11_13.cells
      go_wp2_with fail
      have hq14 : wq13.heap.size ≤ wq13.heap.size := Nat.le_refl _
      go_region_held3 (fun w' => w'.cell? ⟨w.heap.size, 0, none⟩ = some (.int .i64 d0.depth) ∧ w'.cell? ⟨w.heap.size, 1, none⟩ = some (.slice A0 d0.rows.length c0) ∧ w'.cell? ⟨(w.heap.size + 1), 0, none⟩ = some (.int .i64 d1.depth) ∧ w'.cell? ⟨(w.heap.size + 1), 1, none⟩ = some (.slice A1 d1.rows.length c1) ∧ w'.cell? ⟨g5, 0, none⟩ = some (.int .i64 (mergeS d0 d1).1.depth) ∧ w'.cell? ⟨g5, 1, none⟩ = some (.slice Ar5 (mergeS d0 d1).1.rows.length cr5) ∧ w'.cell? ⟨w6.heap.size, 0, none⟩ = some (.int .i64 d0.depth) ∧ w'.cell? ⟨w6.heap.size, 1, none⟩ = some (.slice Ar6 d0.rows.length cr6) ∧ w'.cell? ⟨w8.heap.size, 0, none⟩ = some (.int .i64 d1.depth) ∧ w'.cell? ⟨w8.heap.size, 1, none⟩ = some (.slice Ar8 d1.rows.length cr8) ∧ w'.cell? ⟨w10.heap.size, 0, none⟩ = some (.int .i64 (mergeS d0 d1).1.depth) ∧ w'.cell? ⟨w10.heap.size, 1, none⟩ = some (.slice Ar10_0 (mergeS d0 d1).1.rows.length cr10_0))
        (first | exact ⟨kc0_0, kc0_1, kc1_0, kc1_1, kc2_0, kc2_1, kc3_0, kc3_1, kc4_0, kc4_1, kc5_0, kc5_1⟩ | exact ⟨(hb14.cell (p := ⟨w.heap.size, 0, none⟩) (by show w.heap.size < wq13.heap.size; omega)).trans kc0_0, (hb14.cell (p := ⟨w.heap.size, 1, none⟩) (by show w.heap.size < wq13.heap.size; omega)).trans kc0_1, (hb14.cell (p := ⟨(w.heap.size + 1), 0, none⟩) (by show (w.heap.size + 1) < wq13.heap.size; omega)).trans kc1_0, (hb14.cell (p := ⟨(w.heap.size + 1), 1, none⟩) (by show (w.heap.size + 1) < wq13.heap.size; omega)).trans kc1_1, (hb14.cell (p := ⟨g5, 0, none⟩) (by show g5 < wq13.heap.size; omega)).trans kc2_0, (hb14.cell (p := ⟨g5, 1, none⟩) (by show g5 < wq13.heap.size; omega)).trans kc2_1, (hb14.cell (p := ⟨w6.heap.size, 0, none⟩) (by show w6.heap.size < wq13.heap.size; omega)).trans kc3_0, (hb14.cell (p := ⟨w6.heap.size, 1, none⟩) (by show w6.heap.size < wq13.heap.size; omega)).trans kc3_1, (hb14.cell (p := ⟨w8.heap.size, 0, none⟩) (by show w8.heap.size < wq13.heap.size; omega)).trans kc4_0, (hb14.cell (p := ⟨w8.heap.size, 1, none⟩) (by show w8.heap.size < wq13.heap.size; omega)).trans kc4_1, (hb14.cell (p := ⟨w10.heap.size, 0, none⟩) (by show w10.heap.size < wq13.heap.size; omega)).trans kc5_0, (hb14.cell (p := ⟨w10.heap.size, 1, none⟩) (by show w10.heap.size < wq13.heap.size; omega)).trans kc5_1⟩ | exact ⟨kq14_0, kq14_1, kq14_2, kq14_3, kq14_4, kq14_5, kq14_6, kq14_7, kq14_8, kq14_9, kq14_10, kq14_11⟩)
        (first | (go_at_call 6; refine (toTable_any _ d1 _ _ _ (Tab.below H1.out hbw13.drew (Nat.le_refl _)) (by show _ ≤ wq13.heap.size; omega) (by omega)).mono ?_; rintro e w14 ⟨r14, rfl, hr14, hbd14⟩; have hb14 : Below wq13.heap.size wq13 w14 := (Below.refl _ _).drew.trans hbd14; clear hbd14; have R14 := Lib.hid hr14; obtain ⟨Ar14, cr14, rfl, _⟩ := hr14.parts; clear hr14) | (go_at_call 8; refine (eqTable_same _ _ d1 _ _ _ _ _ (Tab.below (R8_13.out) hb14 (by show _ ≤ wq13.heap.size; omega)) (R14.out) (by have := hb14.size; show _ ≤ w14.heap.size; exact Nat.le_trans (by show _ ≤ wq13.heap.size; omega) this) (Nat.le_refl _)).mono ?_; rintro e wq14 ⟨rfl, hbq14⟩; have kq14_0 := (hbq14.cell (p := ⟨w.heap.size, 0, none⟩) (by have := hb14.size; show w.heap.size < w14.heap.size; exact Nat.lt_of_lt_of_le (by show w.heap.size < wq13.heap.size; omega) this)).trans ((hb14.cell (p := ⟨w.heap.size, 0, none⟩) (by show w.heap.size < wq13.heap.size; omega)).trans kc0_0); have kq14_1 := (hbq14.cell (p := ⟨w.heap.size, 1, none⟩) (by have := hb14.size; show w.heap.size < w14.heap.size; exact Nat.lt_of_lt_of_le (by show w.heap.size < wq13.heap.size; omega) this)).trans ((hb14.cell (p := ⟨w.heap.size, 1, none⟩) (by show w.heap.size < wq13.heap.size; omega)).trans kc0_1); have kq14_2 := (hbq14.cell (p := ⟨(w.heap.size + 1), 0, none⟩) (by have := hb14.size; show (w.heap.size + 1) < w14.heap.size; exact Nat.lt_of_lt_of_le (by show (w.heap.size + 1) < wq13.heap.size; omega) this)).trans ((hb14.cell (p := ⟨(w.heap.size + 1), 0, none⟩) (by show (w.heap.size + 1) < wq13.heap.size; omega)).trans kc1_0); have kq14_3 := (hbq14.cell (p := ⟨(w.heap.size + 1), 1, none⟩) (by have := hb14.size; show (w.heap.size + 1) < w14.heap.size; exact Nat.lt_of_lt_of_le (by show (w.heap.size + 1) < wq13.heap.size; omega) this)).trans ((hb14.cell (p := ⟨(w.heap.size + 1), 1, none⟩) (by show (w.heap.size + 1) < wq13.heap.size; omega)).trans kc1_1); have kq14_4 := (hbq14.cell (p := ⟨g5, 0, none⟩) (by have := hb14.size; show g5 < w14.heap.size; exact Nat.lt_of_lt_of_le (by show g5 < wq13.heap.size; omega) this)).trans ((hb14.cell (p := ⟨g5, 0, none⟩) (by show g5 < wq13.heap.size; omega)).trans kc2_0); have kq14_5 := (hbq14.cell (p := ⟨g5, 1, none⟩) (by have := hb14.size; show g5 < w14.heap.size; exact Nat.lt_of_lt_of_le (by show g5 < wq13.heap.size; omega) this)).trans ((hb14.cell (p := ⟨g5, 1, none⟩) (by show g5 < wq13.heap.size; omega)).trans kc2_1); have kq14_6 := (hbq14.cell (p := ⟨w6.heap.size, 0, none⟩) (by have := hb14.size; show w6.heap.size < w14.heap.size; exact Nat.lt_of_lt_of_le (by show w6.heap.size < wq13.heap.size; omega) this)).trans ((hb14.cell (p := ⟨w6.heap.size, 0, none⟩) (by show w6.heap.size < wq13.heap.size; omega)).trans kc3_0); have kq14_7 := (hbq14.cell (p := ⟨w6.heap.size, 1, none⟩) (by have := hb14.size; show w6.heap.size < w14.heap.size; exact Nat.lt_of_lt_of_le (by show w6.heap.size < wq13.heap.size; omega) this)).trans ((hb14.cell (p := ⟨w6.heap.size, 1, none⟩) (by show w6.heap.size < wq13.heap.size; omega)).trans kc3_1); have kq14_8 := (hbq14.cell (p := ⟨w8.heap.size, 0, none⟩) (by have := hb14.size; show w8.heap.size < w14.heap.size; exact Nat.lt_of_lt_of_le (by show w8.heap.size < wq13.heap.size; omega) this)).trans ((hb14.cell (p := ⟨w8.heap.size, 0, none⟩) (by show w8.heap.size < wq13.heap.size; omega)).trans kc4_0); have kq14_9 := (hbq14.cell (p := ⟨w8.heap.size, 1, none⟩) (by have := hb14.size; show w8.heap.size < w14.heap.size; exact Nat.lt_of_lt_of_le (by show w8.heap.size < wq13.heap.size; omega) this)).trans ((hb14.cell (p := ⟨w8.heap.size, 1, none⟩) (by show w8.heap.size < wq13.heap.size; omega)).trans kc4_1); have kq14_10 := (hbq14.cell (p := ⟨w10.heap.size, 0, none⟩) (by have := hb14.size; show w10.heap.size < w14.heap.size; exact Nat.lt_of_lt_of_le (by show w10.heap.size < wq13.heap.size; omega) this)).trans ((hb14.cell (p := ⟨w10.heap.size, 0, none⟩) (by show w10.heap.size < wq13.heap.size; omega)).trans kc5_0); have kq14_11 := (hbq14.cell (p := ⟨w10.heap.size, 1, none⟩) (by have := hb14.size; show w10.heap.size < w14.heap.size; exact Nat.lt_of_lt_of_le (by show w10.heap.size < wq13.heap.size; omega) this)).trans ((hb14.cell (p := ⟨w10.heap.size, 1, none⟩) (by show w10.heap.size < wq13.heap.size; omega)).trans kc5_1)))
      clear kc0_0 kc0_1 kc1_0 kc1_1 kc2_0 kc2_1 kc3_0 kc3_1 kc4_0 kc4_1 kc5_0 kc5_1 hq14 kq14_0 kq14_1 kq14_2 kq14_3 kq14_4 kq14_5 kq14_6 kq14_7 kq14_8 kq14_9 kq14_10 kq14_11
      clear R14
      have hbz14 : Below wq13.heap.size wq13 wq14 := Below.trans hb14 (hbq14.mono hb14.size)
      clear hb14 hbq14
      have hs14 := hbz14.size
      have hbw14 := hbw13.trans (hbz14.mono (by omega))
      clear hbw13
      have R5_0_14 := Lib.hid (Tab.below R5_0_13.out hbz14 (by omega)); clear R5_0_13
      have R6_14 := Lib.hid (Tab.below R6_13.out hbz14 (by omega)); clear R6_13
      have R8_14 := Lib.hid (Tab.below R8_13.out hbz14 (by omega)); clear R8_13
      have R10_0_14 := Lib.hid (Tab.below R10_0_13.out hbz14 (by omega)); clear R10_0_13
      have BX1_14 := BX1_13.below hbz14 (by omega); clear BX1_13
      have BX2_14 := BX2_13.below hbz14 (by omega); clear BX2_13
      have BXR5_14 := BXR5_13.below hbz14 (by omega); clear BXR5_13
      have BX7_14 := BX7_13.below hbz14 (by omega); clear BX7_13
      have BX9_14 := BX9_13.below hbz14 (by omega); clear BX9_13
      have BX11_14 := BX11_13.below hbz14 (by omega); clear BX11_13
      obtain ⟨kc0_0, kc0_1⟩ := BX1_14.cells
      obtain ⟨kc1_0, kc1_1⟩ := BX2_14.cells
      obtain ⟨kc2_0, kc2_1⟩ := BXR5_14.cells
      obtain ⟨kc3_0, kc3_1⟩ := BX7_14.cells
      obtain ⟨kc4_0, kc4_1⟩ := BX9_14.cells
      obtain ⟨kc5_0, kc5_1⟩ := BX11_14.cells
      go_wp2_with fail
      clear kc0_0 kc0_1 kc1_0 kc1_1 kc2_0 kc2_1 kc3_0 kc3_1 kc4_0 kc4_1 kc5_0 kc5_1
      refine (markTable_any _ d0 _ _ _ _ R6_14.out (by omega) (by omega) (by omega) (by omega)).mono ?_
      rintro e w15 ⟨rfl, hr15, ht15⟩
      have hs15 := ht15.size
      have hbw15 := hbw14.trans ((ht15.below (by omega)).mono (by omega))
      clear hbw14
      have R5_0_15 := Lib.hid (Tab.turned R5_0_14.out ht15 (by omega) (by omega)); clear R5_0_14
      have R8_15 := Lib.hid (Tab.turned R8_14.out ht15 (by omega) (by omega)); clear R8_14
      have R10_0_15 := Lib.hid (Tab.turned R10_0_14.out ht15 (by omega) (by omega)); clear R10_0_14
      have BX1_15 : Box2 w15 w.heap.size 24 (.int .i64 d0.depth) (.slice A0 d0.rows.length c0) := (ht15.block _ (by omega) (by omega)).trans BX1_14; clear BX1_14
      have BX2_15 : Box2 w15 (w.heap.size + 1) 24 (.int .i64 d1.depth) (.slice A1 d1.rows.length c1) := (ht15.block _ (by omega) (by omega)).trans BX2_14; clear BX2_14
      have BXR5_15 : Box2 w15 g5 28 (.int .i64 (mergeS d0 d1).1.depth) (.slice Ar5 (mergeS d0 d1).1.rows.length cr5) := (ht15.block _ (by omega) (by omega)).trans BXR5_14; clear BXR5_14
      have BX7_15 : Box2 w15 w6.heap.size 28 (.int .i64 d0.depth) (.slice Ar6 d0.rows.length cr6) := (ht15.block _ (by omega) (by omega)).trans BX7_14; clear BX7_14
      have BX9_15 : Box2 w15 w8.heap.size 28 (.int .i64 d1.depth) (.slice Ar8 d1.rows.length cr8) := (ht15.block _ (by omega) (by omega)).trans BX9_14; clear BX9_14
      have BX11_15 : Box2 w15 w10.heap.size 28 (.int .i64 (mergeS d0 d1).1.depth) (.slice Ar10_0 (mergeS d0 d1).1.rows.length cr10_0) := (ht15.block _ (by omega) (by omega)).trans BX11_14; clear BX11_14
      clear R6_14
      have R6_15 := Lib.hid hr15; clear hr15
      obtain ⟨kc0_0, kc0_1⟩ := BX1_15.cells
      obtain ⟨kc1_0, kc1_1⟩ := BX2_15.cells
      obtain ⟨kc2_0, kc2_1⟩ := BXR5_15.cells
      obtain ⟨kc3_0, kc3_1⟩ := BX7_15.cells
      obtain ⟨kc4_0, kc4_1⟩ := BX9_15.cells
      obtain ⟨kc5_0, kc5_1⟩ := BX11_15.cells
      go_wp2_with fail
      clear kc0_0 kc0_1 kc1_0 kc1_1 kc2_0 kc2_1 kc3_0 kc3_1 kc4_0 kc4_1 kc5_0 kc5_1
      refine (markTable_any _ d1 _ _ _ _ R8_15.out (by omega) (by omega) (by omega) (by omega)).mono ?_
      rintro e w16 ⟨rfl, hr16, ht16⟩
      have hs16 := ht16.size
      have hbw16 := hbw15.trans ((ht16.below (by omega)).mono (by omega))
      clear hbw15
      have R5_0_16 := Lib.hid (Tab.turned R5_0_15.out ht16 (by omega) (by omega)); clear R5_0_15
      have R6_16 := Lib.hid (Tab.turned R6_15.out ht16 (by omega) (by omega)); clear R6_15
      have R10_0_16 := Lib.hid (Tab.turned R10_0_15.out ht16 (by omega) (by omega)); clear R10_0_15
      have BX1_16 : Box2 w16 w.heap.size 24 (.int .i64 d0.depth) (.slice A0 d0.rows.length c0) := (ht16.block _ (by omega) (by omega)).trans BX1_15; clear BX1_15
      have BX2_16 : Box2 w16 (w.heap.size + 1) 24 (.int .i64 d1.depth) (.slice A1 d1.rows.length c1) := (ht16.block _ (by omega) (by omega)).trans BX2_15; clear BX2_15
      have BXR5_16 : Box2 w16 g5 28 (.int .i64 (mergeS d0 d1).1.depth) (.slice Ar5 (mergeS d0 d1).1.rows.length cr5) := (ht16.block _ (by omega) (by omega)).trans BXR5_15; clear BXR5_15
      have BX7_16 : Box2 w16 w6.heap.size 28 (.int .i64 d0.depth) (.slice Ar6 d0.rows.length cr6) := (ht16.block _ (by omega) (by omega)).trans BX7_15; clear BX7_15
      have BX9_16 : Box2 w16 w8.heap.size 28 (.int .i64 d1.depth) (.slice Ar8 d1.rows.length cr8) := (ht16.block _ (by omega) (by omega)).trans BX9_15; clear BX9_15
      have BX11_16 : Box2 w16 w10.heap.size 28 (.int .i64 (mergeS d0 d1).1.depth) (.slice Ar10_0 (mergeS d0 d1).1.rows.length cr10_0) := (ht16.block _ (by omega) (by omega)).trans BX11_15; clear BX11_15
      clear R8_15
      have R8_16 := Lib.hid hr16; clear hr16
      obtain ⟨kc0_0, kc0_1⟩ := BX1_16.cells
      obtain ⟨kc1_0, kc1_1⟩ := BX2_16.cells
      obtain ⟨kc2_0, kc2_1⟩ := BXR5_16.cells
      obtain ⟨kc3_0, kc3_1⟩ := BX7_16.cells
      obtain ⟨kc4_0, kc4_1⟩ := BX9_16.cells
      obtain ⟨kc5_0, kc5_1⟩ := BX11_16.cells
      go_wp2_with fail
      clear kc0_0 kc0_1 kc1_0 kc1_1 kc2_0 kc2_1 kc3_0 kc3_1 kc4_0 kc4_1 kc5_0 kc5_1
      refine (eqTable_same _ _ (mergeS d0 d1).1 _ _ _ _ _ R10_0_16.out R5_0_16.out (by omega) (by omega)).mono ?_
      rintro e w17 ⟨rfl, hb17⟩
      have hs17 := hb17.size
      have hbw17 := hbw16.trans (hb17.mono (by omega))
      clear hbw16
      have R5_0_17 := Lib.hid (Tab.below R5_0_16.out hb17 (by omega)); clear R5_0_16
      have R6_17 := Lib.hid (Tab.below R6_16.out hb17 (by omega)); clear R6_16
      have R8_17 := Lib.hid (Tab.below R8_16.out hb17 (by omega)); clear R8_16
      have R10_0_17 := Lib.hid (Tab.below R10_0_16.out hb17 (by omega)); clear R10_0_16
      have BX1_17 := BX1_16.below hb17 (by omega); clear BX1_16
      have BX2_17 := BX2_16.below hb17 (by omega); clear BX2_16
      have BXR5_17 := BXR5_16.below hb17 (by omega); clear BXR5_16
      have BX7_17 := BX7_16.below hb17 (by omega); clear BX7_16
      have BX9_17 := BX9_16.below hb17 (by omega); clear BX9_16
      have BX11_17 := BX11_16.below hb17 (by omega); clear BX11_16
      obtain ⟨kc0_0, kc0_1⟩ := BX1_17.cells
      obtain ⟨kc1_0, kc1_1⟩ := BX2_17.cells
      obtain ⟨kc2_0, kc2_1⟩ := BXR5_17.cells
      obtain ⟨kc3_0, kc3_1⟩ := BX7_17.cells
      obtain ⟨kc4_0, kc4_1⟩ := BX9_17.cells
      obtain ⟨kc5_0, kc5_1⟩ := BX11_17.cells
      go_wp2_with fail
      clear kc0_0 kc0_1 kc1_0 kc1_1 kc2_0 kc2_1 kc3_0 kc3_1 kc4_0 kc4_1 kc5_0 kc5_1
      refine (markTable_any _ (mergeS d0 d1).1 _ _ _ _ R10_0_17.out (by omega) (by omega) (by omega) (by omega)).mono ?_
      rintro e w18 ⟨rfl, hr18, ht18⟩
      have hs18 := ht18.size
      have hbw18 := hbw17.trans ((ht18.below (by omega)).mono (by omega))
      clear hbw17
      have R5_0_18 := Lib.hid (Tab.turned R5_0_17.out ht18 (by omega) (by omega)); clear R5_0_17
      have R6_18 := Lib.hid (Tab.turned R6_17.out ht18 (by omega) (by omega)); clear R6_17
      have R8_18 := Lib.hid (Tab.turned R8_17.out ht18 (by omega) (by omega)); clear R8_17
      have BX1_18 : Box2 w18 w.heap.size 24 (.int .i64 d0.depth) (.slice A0 d0.rows.length c0) := (ht18.block _ (by omega) (by omega)).trans BX1_17; clear BX1_17
      have BX2_18 : Box2 w18 (w.heap.size + 1) 24 (.int .i64 d1.depth) (.slice A1 d1.rows.length c1) := (ht18.block _ (by omega) (by omega)).trans BX2_17; clear BX2_17
      have BXR5_18 : Box2 w18 g5 28 (.int .i64 (mergeS d0 d1).1.depth) (.slice Ar5 (mergeS d0 d1).1.rows.length cr5) := (ht18.block _ (by omega) (by omega)).trans BXR5_17; clear BXR5_17
      have BX7_18 : Box2 w18 w6.heap.size 28 (.int .i64 d0.depth) (.slice Ar6 d0.rows.length cr6) := (ht18.block _ (by omega) (by omega)).trans BX7_17; clear BX7_17
      have BX9_18 : Box2 w18 w8.heap.size 28 (.int .i64 d1.depth) (.slice Ar8 d1.rows.length cr8) := (ht18.block _ (by omega) (by omega)).trans BX9_17; clear BX9_17
      have BX11_18 : Box2 w18 w10.heap.size 28 (.int .i64 (mergeS d0 d1).1.depth) (.slice Ar10_0 (mergeS d0 d1).1.rows.length cr10_0) := (ht18.block _ (by omega) (by omega)).trans BX11_17; clear BX11_17
      clear R10_0_17
      have R10_0_18 := Lib.hid hr18; clear hr18
      obtain ⟨kc0_0, kc0_1⟩ := BX1_18.cells
      obtain ⟨kc1_0, kc1_1⟩ := BX2_18.cells
      obtain ⟨kc2_0, kc2_1⟩ := BXR5_18.cells
      obtain ⟨kc3_0, kc3_1⟩ := BX7_18.cells
      obtain ⟨kc4_0, kc4_1⟩ := BX9_18.cells
      obtain ⟨kc5_0, kc5_1⟩ := BX11_18.cells
      go_wp2_with fail
      clear kc0_0 kc0_1 kc1_0 kc1_1 kc2_0 kc2_1 kc3_0 kc3_1 kc4_0 kc4_1 kc5_0 kc5_1
      refine (heldTable_yes _ (mergeS d0 d1).1 _ _ _ _ R10_0_18.out (by omega) (by omega) (by omega) (by omega)).mono ?_
      rintro e w19 ⟨rfl, hb19⟩
      have hs19 := hb19.size
      have hbw19 := hbw18.trans (hb19.mono (by omega))
      clear hbw18
      have R5_0_19 := Lib.hid (Tab.below R5_0_18.out hb19 (by omega)); clear R5_0_18
      have R6_19 := Lib.hid (Tab.below R6_18.out hb19 (by omega)); clear R6_18
      have R8_19 := Lib.hid (Tab.below R8_18.out hb19 (by omega)); clear R8_18
      have R10_0_19 := Lib.hid (Tab.below R10_0_18.out hb19 (by omega)); clear R10_0_18
      have BX1_19 := BX1_18.below hb19 (by omega); clear BX1_18
      have BX2_19 := BX2_18.below hb19 (by omega); clear BX2_18
      have BXR5_19 := BXR5_18.below hb19 (by omega); clear BXR5_18
      have BX7_19 := BX7_18.below hb19 (by omega); clear BX7_18
      have BX9_19 := BX9_18.below hb19 (by omega); clear BX9_18
      have BX11_19 := BX11_18.below hb19 (by omega); clear BX11_18
      obtain ⟨kc0_0, kc0_1⟩ := BX1_19.cells
      obtain ⟨kc1_0, kc1_1⟩ := BX2_19.cells
      obtain ⟨kc2_0, kc2_1⟩ := BXR5_19.cells
      obtain ⟨kc3_0, kc3_1⟩ := BX7_19.cells
      obtain ⟨kc4_0, kc4_1⟩ := BX9_19.cells
      obtain ⟨kc5_0, kc5_1⟩ := BX11_19.cells
      go_wp2_with fail
      clear kc0_0 kc0_1 kc1_0 kc1_1 kc2_0 kc2_1 kc3_0 kc3_1 kc4_0 kc4_1 kc5_0 kc5_1
      refine wp_region_U (fun w' => w'.cell? ⟨w.heap.size, 0, none⟩ = some (.int .i64 d0.depth) ∧ w'.cell? ⟨w.heap.size, 1, none⟩ = some (.slice A0 d0.rows.length c0) ∧ w'.cell? ⟨(w.heap.size + 1), 0, none⟩ = some (.int .i64 d1.depth) ∧ w'.cell? ⟨(w.heap.size + 1), 1, none⟩ = some (.slice A1 d1.rows.length c1) ∧ w'.cell? ⟨g5, 0, none⟩ = some (.int .i64 (mergeS d0 d1).1.depth) ∧ w'.cell? ⟨g5, 1, none⟩ = some (.slice Ar5 (mergeS d0 d1).1.rows.length cr5) ∧ w'.cell? ⟨w6.heap.size, 0, none⟩ = some (.int .i64 d0.depth) ∧ w'.cell? ⟨w6.heap.size, 1, none⟩ = some (.slice Ar6 d0.rows.length cr6) ∧ w'.cell? ⟨w8.heap.size, 0, none⟩ = some (.int .i64 d1.depth) ∧ w'.cell? ⟨w8.heap.size, 1, none⟩ = some (.slice Ar8 d1.rows.length cr8) ∧ w'.cell? ⟨w10.heap.size, 0, none⟩ = some (.int .i64 (mergeS d0 d1).1.depth) ∧ w'.cell? ⟨w10.heap.size, 1, none⟩ = some (.slice Ar10_0 (mergeS d0 d1).1.rows.length cr10_0)) [10] (by kernel_rfl) ?_
      refine nameU ?_
      intro V20 HV20
      have hv0 : Below w19.heap.size w19 V20 := by rw [HV20.out]; exact (Below.refl _ _).drew
      clear HV20
      have hsz0 := hv0.size
      have E0_0 := BX1_19.below hv0 (by omega)
      obtain ⟨z0_0_0, z0_0_1⟩ := E0_0.cells
      have E0_1 := BX2_19.below hv0 (by omega)
      obtain ⟨z0_1_0, z0_1_1⟩ := E0_1.cells
      have E0_2 := BXR5_19.below hv0 (by omega)
      obtain ⟨z0_2_0, z0_2_1⟩ := E0_2.cells
      have E0_3 := BX7_19.below hv0 (by omega)
      obtain ⟨z0_3_0, z0_3_1⟩ := E0_3.cells
      have E0_4 := BX9_19.below hv0 (by omega)
      obtain ⟨z0_4_0, z0_4_1⟩ := E0_4.cells
      have E0_5 := BX11_19.below hv0 (by omega)
      obtain ⟨z0_5_0, z0_5_1⟩ := E0_5.cells
      have hS0 : V20.cell? ⟨w.heap.size, 0, none⟩ = some (.int .i64 d0.depth) ∧ V20.cell? ⟨w.heap.size, 1, none⟩ = some (.slice A0 d0.rows.length c0) ∧ V20.cell? ⟨(w.heap.size + 1), 0, none⟩ = some (.int .i64 d1.depth) ∧ V20.cell? ⟨(w.heap.size + 1), 1, none⟩ = some (.slice A1 d1.rows.length c1) ∧ V20.cell? ⟨g5, 0, none⟩ = some (.int .i64 (mergeS d0 d1).1.depth) ∧ V20.cell? ⟨g5, 1, none⟩ = some (.slice Ar5 (mergeS d0 d1).1.rows.length cr5) ∧ V20.cell? ⟨w6.heap.size, 0, none⟩ = some (.int .i64 d0.depth) ∧ V20.cell? ⟨w6.heap.size, 1, none⟩ = some (.slice Ar6 d0.rows.length cr6) ∧ V20.cell? ⟨w8.heap.size, 0, none⟩ = some (.int .i64 d1.depth) ∧ V20.cell? ⟨w8.heap.size, 1, none⟩ = some (.slice Ar8 d1.rows.length cr8) ∧ V20.cell? ⟨w10.heap.size, 0, none⟩ = some (.int .i64 (mergeS d0 d1).1.depth) ∧ V20.cell? ⟨w10.heap.size, 1, none⟩ = some (.slice Ar10_0 (mergeS d0 d1).1.rows.length cr10_0) := ⟨z0_0_0, z0_0_1, z0_1_0, z0_1_1, z0_2_0, z0_2_1, z0_3_0, z0_3_1, z0_4_0, z0_4_1, z0_5_0, z0_5_1⟩
      clear z0_0_0 z0_0_1 z0_1_0 z0_1_1 z0_2_0 z0_2_1 z0_3_0 z0_3_1 z0_4_0 z0_4_1 z0_5_0 z0_5_1 E0_0 E0_1 E0_2 E0_3 E0_4 E0_5
      refine anyU_take (i := 0) (v := .agg #[.int .i64 d0.depth, .slice A0 d0.rows.length c0]) rfl (by kernel_rfl) (by kernel_rfl) (by kernel_rfl) (fun _ _ _ h => h) ⟨by rfl, fun w' hS' => (by obtain ⟨k1, k2, k3, k4, k5, k6, k7, k8, k9, k10, k11, k12⟩ := hS'; go_simp)⟩ hS0 ?_
      simp only [List.getElem_toArray, List.getElem_cons_zero, Act.put, List.setIfInBounds_toArray, List.set_cons_zero, List.set_cons_succ]
      refine anyU_take (i := 2) (v := .agg #[.int .i64 d1.depth, .slice A1 d1.rows.length c1]) rfl (by kernel_rfl) (by kernel_rfl) (by kernel_rfl) (fun _ _ _ h => h) ⟨by rfl, fun w' hS' => (by obtain ⟨k1, k2, k3, k4, k5, k6, k7, k8, k9, k10, k11, k12⟩ := hS'; go_simp)⟩ hS0 ?_
      simp only [List.getElem_toArray, List.getElem_cons_succ, List.getElem_cons_zero, Act.put, List.setIfInBounds_toArray, List.set_cons_zero, List.set_cons_succ]
      refine anyU_ready (rs := [1, 8]) (by kernel_rfl) (by simp) ?_
      refine ReadyU.cons (i := 1) rfl (fun K hK => ?_) (ReadyU.cons (i := 8) rfl (fun K hK => ?_) ReadyU.nil)
      simp only [List.getElem_toArray, List.getElem_cons_succ, List.getElem_cons_zero]
      refine ite_is (by rfl) ?_
      simp [go_sem]
      refine (toTable_any _ d0 _ _ _ (Tab.below H0.out (hbw19.trans (hv0.mono (by omega))) (Nat.le_refl _)) (by omega) (by omega)).mono ?_
      rintro e X20_1 ⟨ra20, rfl, hra, hbe⟩
      have hv1 : Below w19.heap.size w19 X20_1 := hv0.trans (hbe.mono hv0.size)
      have hsz1 := hv1.size
      have hse1 := hbe.size
      have RA1 := Lib.hid hra
      obtain ⟨Ara20, cra20, rfl, _⟩ := hra.parts
      clear hra
      clear hbe
      have E1_0 := BX1_19.below hv1 (by omega)
      obtain ⟨z1_0_0, z1_0_1⟩ := E1_0.cells
      have E1_1 := BX2_19.below hv1 (by omega)
      obtain ⟨z1_1_0, z1_1_1⟩ := E1_1.cells
      have E1_2 := BXR5_19.below hv1 (by omega)
      obtain ⟨z1_2_0, z1_2_1⟩ := E1_2.cells
      have E1_3 := BX7_19.below hv1 (by omega)
      obtain ⟨z1_3_0, z1_3_1⟩ := E1_3.cells
      have E1_4 := BX9_19.below hv1 (by omega)
      obtain ⟨z1_4_0, z1_4_1⟩ := E1_4.cells
      have E1_5 := BX11_19.below hv1 (by omega)
      obtain ⟨z1_5_0, z1_5_1⟩ := E1_5.cells
      have hS1 : X20_1.cell? ⟨w.heap.size, 0, none⟩ = some (.int .i64 d0.depth) ∧ X20_1.cell? ⟨w.heap.size, 1, none⟩ = some (.slice A0 d0.rows.length c0) ∧ X20_1.cell? ⟨(w.heap.size + 1), 0, none⟩ = some (.int .i64 d1.depth) ∧ X20_1.cell? ⟨(w.heap.size + 1), 1, none⟩ = some (.slice A1 d1.rows.length c1) ∧ X20_1.cell? ⟨g5, 0, none⟩ = some (.int .i64 (mergeS d0 d1).1.depth) ∧ X20_1.cell? ⟨g5, 1, none⟩ = some (.slice Ar5 (mergeS d0 d1).1.rows.length cr5) ∧ X20_1.cell? ⟨w6.heap.size, 0, none⟩ = some (.int .i64 d0.depth) ∧ X20_1.cell? ⟨w6.heap.size, 1, none⟩ = some (.slice Ar6 d0.rows.length cr6) ∧ X20_1.cell? ⟨w8.heap.size, 0, none⟩ = some (.int .i64 d1.depth) ∧ X20_1.cell? ⟨w8.heap.size, 1, none⟩ = some (.slice Ar8 d1.rows.length cr8) ∧ X20_1.cell? ⟨w10.heap.size, 0, none⟩ = some (.int .i64 (mergeS d0 d1).1.depth) ∧ X20_1.cell? ⟨w10.heap.size, 1, none⟩ = some (.slice Ar10_0 (mergeS d0 d1).1.rows.length cr10_0) := ⟨z1_0_0, z1_0_1, z1_1_0, z1_1_1, z1_2_0, z1_2_1, z1_3_0, z1_3_1, z1_4_0, z1_4_1, z1_5_0, z1_5_1⟩
      clear z1_0_0 z1_0_1 z1_1_0 z1_1_1 z1_2_0 z1_2_1 z1_3_0 z1_3_1 z1_4_0 z1_4_1 z1_5_0 z1_5_1 E1_0 E1_1 E1_2 E1_3 E1_4 E1_5
      refine hK.out _ _ ⟨fun _ => hS1, ?_⟩
      clear hK K
      try simp only [List.getElem_toArray, List.getElem_cons_succ, List.getElem_cons_zero, Act.put, List.setIfInBounds_toArray, List.set_cons_zero, List.set_cons_succ]
      refine anyU_ready (rs := [3, 8]) (by kernel_rfl) (by simp) ?_
      refine ReadyU.cons (i := 3) rfl (fun K hK => ?_) (ReadyU.cons (i := 8) rfl (fun K hK => ?_) ReadyU.nil)
      simp only [List.getElem_toArray, List.getElem_cons_succ, List.getElem_cons_zero]
      refine ite_is (by rfl) ?_
      simp [go_sem]
      refine (toTable_any _ d1 _ _ _ (Tab.below H1.out (hbw19.trans (hv1.mono (by omega))) (Nat.le_refl _)) (by omega) (by omega)).mono ?_
      rintro e X20_2 ⟨rb20, rfl, hrb, hbe⟩
      have hv2 : Below w19.heap.size w19 X20_2 := hv1.trans (hbe.mono hv1.size)
      have hsz2 := hv2.size
      have hse2 := hbe.size
      have RA2 := Lib.hid (Tab.below RA1.out hbe (by omega)); clear RA1
      have RB2 := Lib.hid hrb
      obtain ⟨Arb20, crb20, rfl, _⟩ := hrb.parts
      clear hrb
      clear hbe
      have E2_0 := BX1_19.below hv2 (by omega)
      obtain ⟨z2_0_0, z2_0_1⟩ := E2_0.cells
      have E2_1 := BX2_19.below hv2 (by omega)
      obtain ⟨z2_1_0, z2_1_1⟩ := E2_1.cells
      have E2_2 := BXR5_19.below hv2 (by omega)
      obtain ⟨z2_2_0, z2_2_1⟩ := E2_2.cells
      have E2_3 := BX7_19.below hv2 (by omega)
      obtain ⟨z2_3_0, z2_3_1⟩ := E2_3.cells
      have E2_4 := BX9_19.below hv2 (by omega)
      obtain ⟨z2_4_0, z2_4_1⟩ := E2_4.cells
      have E2_5 := BX11_19.below hv2 (by omega)
      obtain ⟨z2_5_0, z2_5_1⟩ := E2_5.cells
      have hS2 : X20_2.cell? ⟨w.heap.size, 0, none⟩ = some (.int .i64 d0.depth) ∧ X20_2.cell? ⟨w.heap.size, 1, none⟩ = some (.slice A0 d0.rows.length c0) ∧ X20_2.cell? ⟨(w.heap.size + 1), 0, none⟩ = some (.int .i64 d1.depth) ∧ X20_2.cell? ⟨(w.heap.size + 1), 1, none⟩ = some (.slice A1 d1.rows.length c1) ∧ X20_2.cell? ⟨g5, 0, none⟩ = some (.int .i64 (mergeS d0 d1).1.depth) ∧ X20_2.cell? ⟨g5, 1, none⟩ = some (.slice Ar5 (mergeS d0 d1).1.rows.length cr5) ∧ X20_2.cell? ⟨w6.heap.size, 0, none⟩ = some (.int .i64 d0.depth) ∧ X20_2.cell? ⟨w6.heap.size, 1, none⟩ = some (.slice Ar6 d0.rows.length cr6) ∧ X20_2.cell? ⟨w8.heap.size, 0, none⟩ = some (.int .i64 d1.depth) ∧ X20_2.cell? ⟨w8.heap.size, 1, none⟩ = some (.slice Ar8 d1.rows.length cr8) ∧ X20_2.cell? ⟨w10.heap.size, 0, none⟩ = some (.int .i64 (mergeS d0 d1).1.depth) ∧ X20_2.cell? ⟨w10.heap.size, 1, none⟩ = some (.slice Ar10_0 (mergeS d0 d1).1.rows.length cr10_0) := ⟨z2_0_0, z2_0_1, z2_1_0, z2_1_1, z2_2_0, z2_2_1, z2_3_0, z2_3_1, z2_4_0, z2_4_1, z2_5_0, z2_5_1⟩
      clear z2_0_0 z2_0_1 z2_1_0 z2_1_1 z2_2_0 z2_2_1 z2_3_0 z2_3_1 z2_4_0 z2_4_1 z2_5_0 z2_5_1 E2_0 E2_1 E2_2 E2_3 E2_4 E2_5
      refine hK.out _ _ ⟨fun _ => hS2, ?_⟩
      clear hK K
      try simp only [List.getElem_toArray, List.getElem_cons_succ, List.getElem_cons_zero, Act.put, List.setIfInBounds_toArray, List.set_cons_zero, List.set_cons_succ]
      refine anyU_ready (rs := [4, 8]) (by kernel_rfl) (by simp) ?_
      refine ReadyU.cons (i := 4) rfl (fun K hK => ?_) (ReadyU.cons (i := 8) rfl (fun K hK => ?_) ReadyU.nil)
      simp only [List.getElem_toArray, List.getElem_cons_succ, List.getElem_cons_zero]
      refine ite_is (by rfl) ?_
      simp [go_sem]
      refine (MergeTables_impl _ d0 _ _ _ d1 _ _ _ RA2.out (by omega) RB2.out (by omega) (by omega) (by omega) I0.out I1.out).mono ?_
      rintro e X20_3 ⟨r20, rfl, hrr, hbe⟩
      have hv3 : Below w19.heap.size w19 X20_3 := hv2.trans (hbe.mono hv2.size)
      have hsz3 := hv3.size
      have hse3 := hbe.size
      obtain ⟨Ar20, cr20, rfl, _⟩ := hrr.parts
      obtain ⟨lo20, hi20, RR3, hlo20, hlw20, hhi20⟩ : ∃ lo hi, Hid (Tab X20_3 lo hi (.agg #[.int .i64 (mergeS d0 d1).1.depth, .slice Ar20 (mergeS d0 d1).1.rows.length cr20]) (mergeS d0 d1).1) ∧ w19.heap.size ≤ lo ∧ X20_2.heap.size ≤ lo ∧ hi ≤ X20_3.heap.size := ⟨_, _, Lib.hid hrr, by omega, Nat.le_refl _, Nat.le_refl _⟩
      clear hrr RA2 RB2
      clear hbe
      have E3_0 := BX1_19.below hv3 (by omega)
      obtain ⟨z3_0_0, z3_0_1⟩ := E3_0.cells
      have E3_1 := BX2_19.below hv3 (by omega)
      obtain ⟨z3_1_0, z3_1_1⟩ := E3_1.cells
      have E3_2 := BXR5_19.below hv3 (by omega)
      obtain ⟨z3_2_0, z3_2_1⟩ := E3_2.cells
      have E3_3 := BX7_19.below hv3 (by omega)
      obtain ⟨z3_3_0, z3_3_1⟩ := E3_3.cells
      have E3_4 := BX9_19.below hv3 (by omega)
      obtain ⟨z3_4_0, z3_4_1⟩ := E3_4.cells
      have E3_5 := BX11_19.below hv3 (by omega)
      obtain ⟨z3_5_0, z3_5_1⟩ := E3_5.cells
      have hS3 : X20_3.cell? ⟨w.heap.size, 0, none⟩ = some (.int .i64 d0.depth) ∧ X20_3.cell? ⟨w.heap.size, 1, none⟩ = some (.slice A0 d0.rows.length c0) ∧ X20_3.cell? ⟨(w.heap.size + 1), 0, none⟩ = some (.int .i64 d1.depth) ∧ X20_3.cell? ⟨(w.heap.size + 1), 1, none⟩ = some (.slice A1 d1.rows.length c1) ∧ X20_3.cell? ⟨g5, 0, none⟩ = some (.int .i64 (mergeS d0 d1).1.depth) ∧ X20_3.cell? ⟨g5, 1, none⟩ = some (.slice Ar5 (mergeS d0 d1).1.rows.length cr5) ∧ X20_3.cell? ⟨w6.heap.size, 0, none⟩ = some (.int .i64 d0.depth) ∧ X20_3.cell? ⟨w6.heap.size, 1, none⟩ = some (.slice Ar6 d0.rows.length cr6) ∧ X20_3.cell? ⟨w8.heap.size, 0, none⟩ = some (.int .i64 d1.depth) ∧ X20_3.cell? ⟨w8.heap.size, 1, none⟩ = some (.slice Ar8 d1.rows.length cr8) ∧ X20_3.cell? ⟨w10.heap.size, 0, none⟩ = some (.int .i64 (mergeS d0 d1).1.depth) ∧ X20_3.cell? ⟨w10.heap.size, 1, none⟩ = some (.slice Ar10_0 (mergeS d0 d1).1.rows.length cr10_0) := ⟨z3_0_0, z3_0_1, z3_1_0, z3_1_1, z3_2_0, z3_2_1, z3_3_0, z3_3_1, z3_4_0, z3_4_1, z3_5_0, z3_5_1⟩
      clear z3_0_0 z3_0_1 z3_1_0 z3_1_1 z3_2_0 z3_2_1 z3_3_0 z3_3_1 z3_4_0 z3_4_1 z3_5_0 z3_5_1 E3_0 E3_1 E3_2 E3_3 E3_4 E3_5
      refine hK.out _ _ ⟨fun _ => hS3, ?_⟩
      clear hK K
      try simp only [List.getElem_toArray, List.getElem_cons_succ, List.getElem_cons_zero, Act.put, List.setIfInBounds_toArray, List.set_cons_zero, List.set_cons_succ]
      refine anyU_take (i := 5) (v := .tuple #[.agg #[.int .i64 (mergeS d0 d1).1.depth, .slice Ar20 (mergeS d0 d1).1.rows.length cr20], .bool (mergeS d0 d1).2]) rfl (by kernel_rfl) (by kernel_rfl) (by kernel_rfl) (fun _ _ _ h => h) ⟨by rfl, fun w' hS' => (by obtain ⟨k1, k2, k3, k4, k5, k6, k7, k8, k9, k10, k11, k12⟩ := hS'; go_simp)⟩ hS3 ?_
      simp only [List.getElem_toArray, List.getElem_cons_succ, List.getElem_cons_zero, Act.put, List.setIfInBounds_toArray, List.set_cons_zero, List.set_cons_succ]
      refine anyU_take (i := 6) (v := .agg #[.int .i64 (mergeS d0 d1).1.depth, .slice Ar20 (mergeS d0 d1).1.rows.length cr20]) rfl (by kernel_rfl) (by kernel_rfl) (by kernel_rfl) (fun _ _ _ h => h) ⟨by rfl, fun w' hS' => (by obtain ⟨k1, k2, k3, k4, k5, k6, k7, k8, k9, k10, k11, k12⟩ := hS'; go_simp)⟩ hS3 ?_
      simp only [List.getElem_toArray, List.getElem_cons_succ, List.getElem_cons_zero, Act.put, List.setIfInBounds_toArray, List.set_cons_zero, List.set_cons_succ]
      refine anyU_take (i := 7) (v := .bool (mergeS d0 d1).2) rfl (by kernel_rfl) (by kernel_rfl) (by kernel_rfl) (fun _ _ _ h => h) ⟨by rfl, fun w' hS' => (by obtain ⟨k1, k2, k3, k4, k5, k6, k7, k8, k9, k10, k11, k12⟩ := hS'; go_simp)⟩ hS3 ?_
      simp only [List.getElem_toArray, List.getElem_cons_succ, List.getElem_cons_zero, Act.put, List.setIfInBounds_toArray, List.set_cons_zero, List.set_cons_succ]
      refine anyU_ready (rs := [8]) (by kernel_rfl) (by simp) ?_
      refine ReadyU.cons (i := 8) rfl (fun K hK => ?_) ReadyU.nil
      simp only [List.getElem_toArray, List.getElem_cons_succ, List.getElem_cons_zero]
      refine ite_is (by rfl) ?_
      simp [go_sem]
      have hv4 : Below w19.heap.size w19 (X20_3.alloc (.cells #[.int .i64 0, .slice none 0 0] 28)) := hv3.alloc hsz3 _
      have E4_0 := BX1_19.below hv4 (by omega)
      obtain ⟨z4_0_0, z4_0_1⟩ := E4_0.cells
      have E4_1 := BX2_19.below hv4 (by omega)
      obtain ⟨z4_1_0, z4_1_1⟩ := E4_1.cells
      have E4_2 := BXR5_19.below hv4 (by omega)
      obtain ⟨z4_2_0, z4_2_1⟩ := E4_2.cells
      have E4_3 := BX7_19.below hv4 (by omega)
      obtain ⟨z4_3_0, z4_3_1⟩ := E4_3.cells
      have E4_4 := BX9_19.below hv4 (by omega)
      obtain ⟨z4_4_0, z4_4_1⟩ := E4_4.cells
      have E4_5 := BX11_19.below hv4 (by omega)
      obtain ⟨z4_5_0, z4_5_1⟩ := E4_5.cells
      have hS4 : (X20_3.alloc (.cells #[.int .i64 0, .slice none 0 0] 28)).cell? ⟨w.heap.size, 0, none⟩ = some (.int .i64 d0.depth) ∧ (X20_3.alloc (.cells #[.int .i64 0, .slice none 0 0] 28)).cell? ⟨w.heap.size, 1, none⟩ = some (.slice A0 d0.rows.length c0) ∧ (X20_3.alloc (.cells #[.int .i64 0, .slice none 0 0] 28)).cell? ⟨(w.heap.size + 1), 0, none⟩ = some (.int .i64 d1.depth) ∧ (X20_3.alloc (.cells #[.int .i64 0, .slice none 0 0] 28)).cell? ⟨(w.heap.size + 1), 1, none⟩ = some (.slice A1 d1.rows.length c1) ∧ (X20_3.alloc (.cells #[.int .i64 0, .slice none 0 0] 28)).cell? ⟨g5, 0, none⟩ = some (.int .i64 (mergeS d0 d1).1.depth) ∧ (X20_3.alloc (.cells #[.int .i64 0, .slice none 0 0] 28)).cell? ⟨g5, 1, none⟩ = some (.slice Ar5 (mergeS d0 d1).1.rows.length cr5) ∧ (X20_3.alloc (.cells #[.int .i64 0, .slice none 0 0] 28)).cell? ⟨w6.heap.size, 0, none⟩ = some (.int .i64 d0.depth) ∧ (X20_3.alloc (.cells #[.int .i64 0, .slice none 0 0] 28)).cell? ⟨w6.heap.size, 1, none⟩ = some (.slice Ar6 d0.rows.length cr6) ∧ (X20_3.alloc (.cells #[.int .i64 0, .slice none 0 0] 28)).cell? ⟨w8.heap.size, 0, none⟩ = some (.int .i64 d1.depth) ∧ (X20_3.alloc (.cells #[.int .i64 0, .slice none 0 0] 28)).cell? ⟨w8.heap.size, 1, none⟩ = some (.slice Ar8 d1.rows.length cr8) ∧ (X20_3.alloc (.cells #[.int .i64 0, .slice none 0 0] 28)).cell? ⟨w10.heap.size, 0, none⟩ = some (.int .i64 (mergeS d0 d1).1.depth) ∧ (X20_3.alloc (.cells #[.int .i64 0, .slice none 0 0] 28)).cell? ⟨w10.heap.size, 1, none⟩ = some (.slice Ar10_0 (mergeS d0 d1).1.rows.length cr10_0) := ⟨z4_0_0, z4_0_1, z4_1_0, z4_1_1, z4_2_0, z4_2_1, z4_3_0, z4_3_1, z4_4_0, z4_4_1, z4_5_0, z4_5_1⟩
      clear z4_0_0 z4_0_1 z4_1_0 z4_1_1 z4_2_0 z4_2_1 z4_3_0 z4_3_1 z4_4_0 z4_4_1 z4_5_0 z4_5_1 E4_0 E4_1 E4_2 E4_3 E4_4 E4_5
      refine hK.out _ _ ⟨fun _ => hS4, ?_⟩
      clear hK K
      try simp only [List.getElem_toArray, List.getElem_cons_succ, List.getElem_cons_zero, Act.put, List.setIfInBounds_toArray, List.set_cons_zero, List.set_cons_succ]
      refine nameU ?_
      intro X20_4 HX4
      obtain ⟨g20, HG4⟩ : ∃ g, Hid (X20_3.heap.size = g) := ⟨_, Lib.hid rfl⟩
      rw [HG4.out]
      rw [← HX4.out] at hv4 hS4
      have hsz4 := hv4.size
      have hse4 : X20_3.heap.size ≤ X20_4.heap.size := by rw [HX4.out]; simp
      have hg20 : w19.heap.size ≤ g20 ∧ g20 < X20_4.heap.size := ⟨by rw [← HG4.out]; exact hsz3, by rw [← HG4.out, HX4.out]; simp⟩
      have BZ4 : Box2 X20_4 g20 28 (.int .i64 0) (.slice none 0 0) := by rw [← HG4.out, HX4.out]; exact Box2.new _ _ _ _
      have hbx4 : Below X20_3.heap.size X20_3 X20_4 := by rw [HX4.out]; exact below_a1 _ _
      have RR4 := Lib.hid (Tab.below RR3.out hbx4 (by omega)); clear RR3
      have hap20 : g20 < lo20 ∨ hi20 ≤ g20 := .inr (by rw [← HG4.out]; exact hhi20)
      replace hhi20 : hi20 ≤ X20_4.heap.size := by omega
      clear HX4 hbx4
      have hzf := (BZ4 : BoxN X20_4 g20 #[.int .i64 0, .slice none 0 0] 28).frozen
      obtain ⟨zz0, zz1⟩ := BZ4.cells
      have hT20 : Turned g20 (g20 + 1) X20_4 ((X20_4.setCell ⟨g20, 0, none⟩ (.int .i64 (mergeS d0 d1).1.depth)).setCell ⟨g20, 1, none⟩ (.slice Ar20 (mergeS d0 d1).1.rows.length cr20)) := (((Turned.refl g20 (g20 + 1) X20_4).setCell (p := ⟨g20, 0, none⟩) (Nat.le_refl _) (Nat.lt_succ_self _) _).setCell (p := ⟨g20, 1, none⟩) (Nat.le_refl _) (Nat.lt_succ_self _) _)
      have hbz20 : Below w19.heap.size w19 ((X20_4.setCell ⟨g20, 0, none⟩ (.int .i64 (mergeS d0 d1).1.depth)).setCell ⟨g20, 1, none⟩ (.slice Ar20 (mergeS d0 d1).1.rows.length cr20)) := hv4.trans ((hT20.below (by omega)).mono hg20.1)
      have EY_0 := BX1_19.below hbz20 (by omega)
      obtain ⟨zY_0_0, zY_0_1⟩ := EY_0.cells
      have EY_1 := BX2_19.below hbz20 (by omega)
      obtain ⟨zY_1_0, zY_1_1⟩ := EY_1.cells
      have EY_2 := BXR5_19.below hbz20 (by omega)
      obtain ⟨zY_2_0, zY_2_1⟩ := EY_2.cells
      have EY_3 := BX7_19.below hbz20 (by omega)
      obtain ⟨zY_3_0, zY_3_1⟩ := EY_3.cells
      have EY_4 := BX9_19.below hbz20 (by omega)
      obtain ⟨zY_4_0, zY_4_1⟩ := EY_4.cells
      have EY_5 := BX11_19.below hbz20 (by omega)
      obtain ⟨zY_5_0, zY_5_1⟩ := EY_5.cells
      have hSY : ((X20_4.setCell ⟨g20, 0, none⟩ (.int .i64 (mergeS d0 d1).1.depth)).setCell ⟨g20, 1, none⟩ (.slice Ar20 (mergeS d0 d1).1.rows.length cr20)).cell? ⟨w.heap.size, 0, none⟩ = some (.int .i64 d0.depth) ∧ ((X20_4.setCell ⟨g20, 0, none⟩ (.int .i64 (mergeS d0 d1).1.depth)).setCell ⟨g20, 1, none⟩ (.slice Ar20 (mergeS d0 d1).1.rows.length cr20)).cell? ⟨w.heap.size, 1, none⟩ = some (.slice A0 d0.rows.length c0) ∧ ((X20_4.setCell ⟨g20, 0, none⟩ (.int .i64 (mergeS d0 d1).1.depth)).setCell ⟨g20, 1, none⟩ (.slice Ar20 (mergeS d0 d1).1.rows.length cr20)).cell? ⟨(w.heap.size + 1), 0, none⟩ = some (.int .i64 d1.depth) ∧ ((X20_4.setCell ⟨g20, 0, none⟩ (.int .i64 (mergeS d0 d1).1.depth)).setCell ⟨g20, 1, none⟩ (.slice Ar20 (mergeS d0 d1).1.rows.length cr20)).cell? ⟨(w.heap.size + 1), 1, none⟩ = some (.slice A1 d1.rows.length c1) ∧ ((X20_4.setCell ⟨g20, 0, none⟩ (.int .i64 (mergeS d0 d1).1.depth)).setCell ⟨g20, 1, none⟩ (.slice Ar20 (mergeS d0 d1).1.rows.length cr20)).cell? ⟨g5, 0, none⟩ = some (.int .i64 (mergeS d0 d1).1.depth) ∧ ((X20_4.setCell ⟨g20, 0, none⟩ (.int .i64 (mergeS d0 d1).1.depth)).setCell ⟨g20, 1, none⟩ (.slice Ar20 (mergeS d0 d1).1.rows.length cr20)).cell? ⟨g5, 1, none⟩ = some (.slice Ar5 (mergeS d0 d1).1.rows.length cr5) ∧ ((X20_4.setCell ⟨g20, 0, none⟩ (.int .i64 (mergeS d0 d1).1.depth)).setCell ⟨g20, 1, none⟩ (.slice Ar20 (mergeS d0 d1).1.rows.length cr20)).cell? ⟨w6.heap.size, 0, none⟩ = some (.int .i64 d0.depth) ∧ ((X20_4.setCell ⟨g20, 0, none⟩ (.int .i64 (mergeS d0 d1).1.depth)).setCell ⟨g20, 1, none⟩ (.slice Ar20 (mergeS d0 d1).1.rows.length cr20)).cell? ⟨w6.heap.size, 1, none⟩ = some (.slice Ar6 d0.rows.length cr6) ∧ ((X20_4.setCell ⟨g20, 0, none⟩ (.int .i64 (mergeS d0 d1).1.depth)).setCell ⟨g20, 1, none⟩ (.slice Ar20 (mergeS d0 d1).1.rows.length cr20)).cell? ⟨w8.heap.size, 0, none⟩ = some (.int .i64 d1.depth) ∧ ((X20_4.setCell ⟨g20, 0, none⟩ (.int .i64 (mergeS d0 d1).1.depth)).setCell ⟨g20, 1, none⟩ (.slice Ar20 (mergeS d0 d1).1.rows.length cr20)).cell? ⟨w8.heap.size, 1, none⟩ = some (.slice Ar8 d1.rows.length cr8) ∧ ((X20_4.setCell ⟨g20, 0, none⟩ (.int .i64 (mergeS d0 d1).1.depth)).setCell ⟨g20, 1, none⟩ (.slice Ar20 (mergeS d0 d1).1.rows.length cr20)).cell? ⟨w10.heap.size, 0, none⟩ = some (.int .i64 (mergeS d0 d1).1.depth) ∧ ((X20_4.setCell ⟨g20, 0, none⟩ (.int .i64 (mergeS d0 d1).1.depth)).setCell ⟨g20, 1, none⟩ (.slice Ar20 (mergeS d0 d1).1.rows.length cr20)).cell? ⟨w10.heap.size, 1, none⟩ = some (.slice Ar10_0 (mergeS d0 d1).1.rows.length cr10_0) := ⟨zY_0_0, zY_0_1, zY_1_0, zY_1_1, zY_2_0, zY_2_1, zY_3_0, zY_3_1, zY_4_0, zY_4_1, zY_5_0, zY_5_1⟩
      clear zY_0_0 zY_0_1 zY_1_0 zY_1_1 zY_2_0 zY_2_1 zY_3_0 zY_3_1 zY_4_0 zY_4_1 zY_5_0 zY_5_1 EY_0 EY_1 EY_2 EY_3 EY_4 EY_5
      refine anyU_ready (rs := [9]) (by kernel_rfl) (by simp) ?_
      refine ReadyU.cons (i := 9) rfl (fun K hK => ?_) ReadyU.nil
      simp only [List.getElem_toArray, List.getElem_cons_succ, List.getElem_cons_zero]
      refine ite_is (by rfl) ?_
      simp [go_sem, zz0, zz1, hzf]
      refine hK.out _ _ ⟨fun _ => hSY, ?_⟩
      clear hK K
      try simp only [List.getElem_toArray, List.getElem_cons_succ, List.getElem_cons_zero, Act.put, List.setIfInBounds_toArray, List.set_cons_zero, List.set_cons_succ]
      refine nameU ?_
      intro w20 HY20
      rw [← HY20.out] at hT20 hbz20 hSY
      have R20_0 := Lib.hid (Tab.turned RR4.out hT20 hhi20 (by omega))
      have BXR20 : Box2 w20 g20 28 (.int .i64 (mergeS d0 d1).1.depth) (.slice Ar20 (mergeS d0 d1).1.rows.length cr20) := by rw [HY20.out]; exact box_store BZ4
      have hsY20 := hT20.size
      clear HY20 hT20 hzf zz0 zz1 BZ4 RR4
      refine anyU_ready (rs := [10]) (by kernel_rfl) (by simp) ?_
      refine ReadyU.cons (i := 10) rfl (fun K hK => ?_) ReadyU.nil
      simp only [List.getElem_toArray, List.getElem_cons_succ, List.getElem_cons_zero]
      refine ite_is (by rfl) ?_
      simp [go_sem]
      refine hK.out _ _ ⟨fun h => absurd h (by decide), ?_⟩
      clear hK K
      try simp only [List.getElem_toArray, List.getElem_cons_succ, List.getElem_cons_zero, Act.put, List.setIfInBounds_toArray, List.set_cons_zero, List.set_cons_succ]
      clear hSY
      refine anyU_done (by kernel_rfl) ?_ _
      rotate_left
      simp only [List.getElem_toArray, List.getElem_cons_succ, List.getElem_cons_zero]
      refine ite_is (by rfl) ?_
      simp [go_sem]
      have hv5 : Below w19.heap.size w19 (X20_2.alloc (.cells #[.int .i64 0, .slice none 0 0] 28)) := hv2.alloc hsz2 _
      have E5_0 := BX1_19.below hv5 (by omega)
      obtain ⟨z5_0_0, z5_0_1⟩ := E5_0.cells
      have E5_1 := BX2_19.below hv5 (by omega)
      obtain ⟨z5_1_0, z5_1_1⟩ := E5_1.cells
      have E5_2 := BXR5_19.below hv5 (by omega)
      obtain ⟨z5_2_0, z5_2_1⟩ := E5_2.cells
      have E5_3 := BX7_19.below hv5 (by omega)
      obtain ⟨z5_3_0, z5_3_1⟩ := E5_3.cells
      have E5_4 := BX9_19.below hv5 (by omega)
      obtain ⟨z5_4_0, z5_4_1⟩ := E5_4.cells
      have E5_5 := BX11_19.below hv5 (by omega)
      obtain ⟨z5_5_0, z5_5_1⟩ := E5_5.cells
      have hS5 : (X20_2.alloc (.cells #[.int .i64 0, .slice none 0 0] 28)).cell? ⟨w.heap.size, 0, none⟩ = some (.int .i64 d0.depth) ∧ (X20_2.alloc (.cells #[.int .i64 0, .slice none 0 0] 28)).cell? ⟨w.heap.size, 1, none⟩ = some (.slice A0 d0.rows.length c0) ∧ (X20_2.alloc (.cells #[.int .i64 0, .slice none 0 0] 28)).cell? ⟨(w.heap.size + 1), 0, none⟩ = some (.int .i64 d1.depth) ∧ (X20_2.alloc (.cells #[.int .i64 0, .slice none 0 0] 28)).cell? ⟨(w.heap.size + 1), 1, none⟩ = some (.slice A1 d1.rows.length c1) ∧ (X20_2.alloc (.cells #[.int .i64 0, .slice none 0 0] 28)).cell? ⟨g5, 0, none⟩ = some (.int .i64 (mergeS d0 d1).1.depth) ∧ (X20_2.alloc (.cells #[.int .i64 0, .slice none 0 0] 28)).cell? ⟨g5, 1, none⟩ = some (.slice Ar5 (mergeS d0 d1).1.rows.length cr5) ∧ (X20_2.alloc (.cells #[.int .i64 0, .slice none 0 0] 28)).cell? ⟨w6.heap.size, 0, none⟩ = some (.int .i64 d0.depth) ∧ (X20_2.alloc (.cells #[.int .i64 0, .slice none 0 0] 28)).cell? ⟨w6.heap.size, 1, none⟩ = some (.slice Ar6 d0.rows.length cr6) ∧ (X20_2.alloc (.cells #[.int .i64 0, .slice none 0 0] 28)).cell? ⟨w8.heap.size, 0, none⟩ = some (.int .i64 d1.depth) ∧ (X20_2.alloc (.cells #[.int .i64 0, .slice none 0 0] 28)).cell? ⟨w8.heap.size, 1, none⟩ = some (.slice Ar8 d1.rows.length cr8) ∧ (X20_2.alloc (.cells #[.int .i64 0, .slice none 0 0] 28)).cell? ⟨w10.heap.size, 0, none⟩ = some (.int .i64 (mergeS d0 d1).1.depth) ∧ (X20_2.alloc (.cells #[.int .i64 0, .slice none 0 0] 28)).cell? ⟨w10.heap.size, 1, none⟩ = some (.slice Ar10_0 (mergeS d0 d1).1.rows.length cr10_0) := ⟨z5_0_0, z5_0_1, z5_1_0, z5_1_1, z5_2_0, z5_2_1, z5_3_0, z5_3_1, z5_4_0, z5_4_1, z5_5_0, z5_5_1⟩
      clear z5_0_0 z5_0_1 z5_1_0 z5_1_1 z5_2_0 z5_2_1 z5_3_0 z5_3_1 z5_4_0 z5_4_1 z5_5_0 z5_5_1 E5_0 E5_1 E5_2 E5_3 E5_4 E5_5
      refine hK.out _ _ ⟨fun _ => hS5, ?_⟩
      clear hK K
      try simp only [List.getElem_toArray, List.getElem_cons_succ, List.getElem_cons_zero, Act.put, List.setIfInBounds_toArray, List.set_cons_zero, List.set_cons_succ]
      refine nameU ?_
      intro X20_5 HX5
      obtain ⟨g20, HG5⟩ : ∃ g, Hid (X20_2.heap.size = g) := ⟨_, Lib.hid rfl⟩
      rw [HG5.out]
      rw [← HX5.out] at hv5 hS5
      have hsz5 := hv5.size
      have hse5 : X20_2.heap.size ≤ X20_5.heap.size := by rw [HX5.out]; simp
      have hg20 : w19.heap.size ≤ g20 ∧ g20 < X20_5.heap.size := ⟨by rw [← HG5.out]; exact hsz2, by rw [← HG5.out, HX5.out]; simp⟩
      have BZ5 : Box2 X20_5 g20 28 (.int .i64 0) (.slice none 0 0) := by rw [← HG5.out, HX5.out]; exact Box2.new _ _ _ _
      have hbx5 : Below X20_2.heap.size X20_2 X20_5 := by rw [HX5.out]; exact below_a1 _ _
      have RA5 := Lib.hid (Tab.below RA2.out hbx5 (by omega)); clear RA2
      have RB5 := Lib.hid (Tab.below RB2.out hbx5 (by omega)); clear RB2
      clear HX5 hbx5
      refine anyU_ready (rs := [4]) (by kernel_rfl) (by simp) ?_
      refine ReadyU.cons (i := 4) rfl (fun K hK => ?_) ReadyU.nil
      simp only [List.getElem_toArray, List.getElem_cons_succ, List.getElem_cons_zero]
      refine ite_is (by rfl) ?_
      simp [go_sem]
      refine (MergeTables_impl _ d0 _ _ _ d1 _ _ _ RA5.out (by omega) RB5.out (by omega) (by omega) (by omega) I0.out I1.out).mono ?_
      rintro e X20_6 ⟨r20, rfl, hrr, hbe⟩
      have hv6 : Below w19.heap.size w19 X20_6 := hv5.trans (hbe.mono hv5.size)
      have hsz6 := hv6.size
      have hse6 := hbe.size
      obtain ⟨Ar20, cr20, rfl, _⟩ := hrr.parts
      obtain ⟨lo20, hi20, RR6, hlo20, hlw20, hhi20⟩ : ∃ lo hi, Hid (Tab X20_6 lo hi (.agg #[.int .i64 (mergeS d0 d1).1.depth, .slice Ar20 (mergeS d0 d1).1.rows.length cr20]) (mergeS d0 d1).1) ∧ w19.heap.size ≤ lo ∧ X20_5.heap.size ≤ lo ∧ hi ≤ X20_6.heap.size := ⟨_, _, Lib.hid hrr, by omega, Nat.le_refl _, Nat.le_refl _⟩
      clear hrr RA5 RB5
      have BZ6 := BZ5.below hbe hg20.2; clear BZ5
      have hap20 : g20 < lo20 ∨ hi20 ≤ g20 := .inl (by omega)
      replace hg20 : w19.heap.size ≤ g20 ∧ g20 < X20_6.heap.size := ⟨hg20.1, by omega⟩
      clear hbe
      have E6_0 := BX1_19.below hv6 (by omega)
      obtain ⟨z6_0_0, z6_0_1⟩ := E6_0.cells
      have E6_1 := BX2_19.below hv6 (by omega)
      obtain ⟨z6_1_0, z6_1_1⟩ := E6_1.cells
      have E6_2 := BXR5_19.below hv6 (by omega)
      obtain ⟨z6_2_0, z6_2_1⟩ := E6_2.cells
      have E6_3 := BX7_19.below hv6 (by omega)
      obtain ⟨z6_3_0, z6_3_1⟩ := E6_3.cells
      have E6_4 := BX9_19.below hv6 (by omega)
      obtain ⟨z6_4_0, z6_4_1⟩ := E6_4.cells
      have E6_5 := BX11_19.below hv6 (by omega)
      obtain ⟨z6_5_0, z6_5_1⟩ := E6_5.cells
      have hS6 : X20_6.cell? ⟨w.heap.size, 0, none⟩ = some (.int .i64 d0.depth) ∧ X20_6.cell? ⟨w.heap.size, 1, none⟩ = some (.slice A0 d0.rows.length c0) ∧ X20_6.cell? ⟨(w.heap.size + 1), 0, none⟩ = some (.int .i64 d1.depth) ∧ X20_6.cell? ⟨(w.heap.size + 1), 1, none⟩ = some (.slice A1 d1.rows.length c1) ∧ X20_6.cell? ⟨g5, 0, none⟩ = some (.int .i64 (mergeS d0 d1).1.depth) ∧ X20_6.cell? ⟨g5, 1, none⟩ = some (.slice Ar5 (mergeS d0 d1).1.rows.length cr5) ∧ X20_6.cell? ⟨w6.heap.size, 0, none⟩ = some (.int .i64 d0.depth) ∧ X20_6.cell? ⟨w6.heap.size, 1, none⟩ = some (.slice Ar6 d0.rows.length cr6) ∧ X20_6.cell? ⟨w8.heap.size, 0, none⟩ = some (.int .i64 d1.depth) ∧ X20_6.cell? ⟨w8.heap.size, 1, none⟩ = some (.slice Ar8 d1.rows.length cr8) ∧ X20_6.cell? ⟨w10.heap.size, 0, none⟩ = some (.int .i64 (mergeS d0 d1).1.depth) ∧ X20_6.cell? ⟨w10.heap.size, 1, none⟩ = some (.slice Ar10_0 (mergeS d0 d1).1.rows.length cr10_0) := ⟨z6_0_0, z6_0_1, z6_1_0, z6_1_1, z6_2_0, z6_2_1, z6_3_0, z6_3_1, z6_4_0, z6_4_1, z6_5_0, z6_5_1⟩
      clear z6_0_0 z6_0_1 z6_1_0 z6_1_1 z6_2_0 z6_2_1 z6_3_0 z6_3_1 z6_4_0 z6_4_1 z6_5_0 z6_5_1 E6_0 E6_1 E6_2 E6_3 E6_4 E6_5
      refine hK.out _ _ ⟨fun _ => hS6, ?_⟩
      clear hK K
      try simp only [List.getElem_toArray, List.getElem_cons_succ, List.getElem_cons_zero, Act.put, List.setIfInBounds_toArray, List.set_cons_zero, List.set_cons_succ]
      refine anyU_take (i := 5) (v := .tuple #[.agg #[.int .i64 (mergeS d0 d1).1.depth, .slice Ar20 (mergeS d0 d1).1.rows.length cr20], .bool (mergeS d0 d1).2]) rfl (by kernel_rfl) (by kernel_rfl) (by kernel_rfl) (fun _ _ _ h => h) ⟨by rfl, fun w' hS' => (by obtain ⟨k1, k2, k3, k4, k5, k6, k7, k8, k9, k10, k11, k12⟩ := hS'; go_simp)⟩ hS6 ?_
      simp only [List.getElem_toArray, List.getElem_cons_succ, List.getElem_cons_zero, Act.put, List.setIfInBounds_toArray, List.set_cons_zero, List.set_cons_succ]
      refine anyU_take (i := 6) (v := .agg #[.int .i64 (mergeS d0 d1).1.depth, .slice Ar20 (mergeS d0 d1).1.rows.length cr20]) rfl (by kernel_rfl) (by kernel_rfl) (by kernel_rfl) (fun _ _ _ h => h) ⟨by rfl, fun w' hS' => (by obtain ⟨k1, k2, k3, k4, k5, k6, k7, k8, k9, k10, k11, k12⟩ := hS'; go_simp)⟩ hS6 ?_
      simp only [List.getElem_toArray, List.getElem_cons_succ, List.getElem_cons_zero, Act.put, List.setIfInBounds_toArray, List.set_cons_zero, List.set_cons_succ]
      refine anyU_take (i := 7) (v := .bool (mergeS d0 d1).2) rfl (by kernel_rfl) (by kernel_rfl) (by kernel_rfl) (fun _ _ _ h => h) ⟨by rfl, fun w' hS' => (by obtain ⟨k1, k2, k3, k4, k5, k6, k7, k8, k9, k10, k11, k12⟩ := hS'; go_simp)⟩ hS6 ?_
      simp only [List.getElem_toArray, List.getElem_cons_succ, List.getElem_cons_zero, Act.put, List.setIfInBounds_toArray, List.set_cons_zero, List.set_cons_succ]
      have hzf := (BZ6 : BoxN X20_6 g20 #[.int .i64 0, .slice none 0 0] 28).frozen
      obtain ⟨zz0, zz1⟩ := BZ6.cells
      have hT20 : Turned g20 (g20 + 1) X20_6 ((X20_6.setCell ⟨g20, 0, none⟩ (.int .i64 (mergeS d0 d1).1.depth)).setCell ⟨g20, 1, none⟩ (.slice Ar20 (mergeS d0 d1).1.rows.length cr20)) := (((Turned.refl g20 (g20 + 1) X20_6).setCell (p := ⟨g20, 0, none⟩) (Nat.le_refl _) (Nat.lt_succ_self _) _).setCell (p := ⟨g20, 1, none⟩) (Nat.le_refl _) (Nat.lt_succ_self _) _)
      have hbz20 : Below w19.heap.size w19 ((X20_6.setCell ⟨g20, 0, none⟩ (.int .i64 (mergeS d0 d1).1.depth)).setCell ⟨g20, 1, none⟩ (.slice Ar20 (mergeS d0 d1).1.rows.length cr20)) := hv6.trans ((hT20.below (by omega)).mono hg20.1)
      have EY_0 := BX1_19.below hbz20 (by omega)
      obtain ⟨zY_0_0, zY_0_1⟩ := EY_0.cells
      have EY_1 := BX2_19.below hbz20 (by omega)
      obtain ⟨zY_1_0, zY_1_1⟩ := EY_1.cells
      have EY_2 := BXR5_19.below hbz20 (by omega)
      obtain ⟨zY_2_0, zY_2_1⟩ := EY_2.cells
      have EY_3 := BX7_19.below hbz20 (by omega)
      obtain ⟨zY_3_0, zY_3_1⟩ := EY_3.cells
      have EY_4 := BX9_19.below hbz20 (by omega)
      obtain ⟨zY_4_0, zY_4_1⟩ := EY_4.cells
      have EY_5 := BX11_19.below hbz20 (by omega)
      obtain ⟨zY_5_0, zY_5_1⟩ := EY_5.cells
      have hSY : ((X20_6.setCell ⟨g20, 0, none⟩ (.int .i64 (mergeS d0 d1).1.depth)).setCell ⟨g20, 1, none⟩ (.slice Ar20 (mergeS d0 d1).1.rows.length cr20)).cell? ⟨w.heap.size, 0, none⟩ = some (.int .i64 d0.depth) ∧ ((X20_6.setCell ⟨g20, 0, none⟩ (.int .i64 (mergeS d0 d1).1.depth)).setCell ⟨g20, 1, none⟩ (.slice Ar20 (mergeS d0 d1).1.rows.length cr20)).cell? ⟨w.heap.size, 1, none⟩ = some (.slice A0 d0.rows.length c0) ∧ ((X20_6.setCell ⟨g20, 0, none⟩ (.int .i64 (mergeS d0 d1).1.depth)).setCell ⟨g20, 1, none⟩ (.slice Ar20 (mergeS d0 d1).1.rows.length cr20)).cell? ⟨(w.heap.size + 1), 0, none⟩ = some (.int .i64 d1.depth) ∧ ((X20_6.setCell ⟨g20, 0, none⟩ (.int .i64 (mergeS d0 d1).1.depth)).setCell ⟨g20, 1, none⟩ (.slice Ar20 (mergeS d0 d1).1.rows.length cr20)).cell? ⟨(w.heap.size + 1), 1, none⟩ = some (.slice A1 d1.rows.length c1) ∧ ((X20_6.setCell ⟨g20, 0, none⟩ (.int .i64 (mergeS d0 d1).1.depth)).setCell ⟨g20, 1, none⟩ (.slice Ar20 (mergeS d0 d1).1.rows.length cr20)).cell? ⟨g5, 0, none⟩ = some (.int .i64 (mergeS d0 d1).1.depth) ∧ ((X20_6.setCell ⟨g20, 0, none⟩ (.int .i64 (mergeS d0 d1).1.depth)).setCell ⟨g20, 1, none⟩ (.slice Ar20 (mergeS d0 d1).1.rows.length cr20)).cell? ⟨g5, 1, none⟩ = some (.slice Ar5 (mergeS d0 d1).1.rows.length cr5) ∧ ((X20_6.setCell ⟨g20, 0, none⟩ (.int .i64 (mergeS d0 d1).1.depth)).setCell ⟨g20, 1, none⟩ (.slice Ar20 (mergeS d0 d1).1.rows.length cr20)).cell? ⟨w6.heap.size, 0, none⟩ = some (.int .i64 d0.depth) ∧ ((X20_6.setCell ⟨g20, 0, none⟩ (.int .i64 (mergeS d0 d1).1.depth)).setCell ⟨g20, 1, none⟩ (.slice Ar20 (mergeS d0 d1).1.rows.length cr20)).cell? ⟨w6.heap.size, 1, none⟩ = some (.slice Ar6 d0.rows.length cr6) ∧ ((X20_6.setCell ⟨g20, 0, none⟩ (.int .i64 (mergeS d0 d1).1.depth)).setCell ⟨g20, 1, none⟩ (.slice Ar20 (mergeS d0 d1).1.rows.length cr20)).cell? ⟨w8.heap.size, 0, none⟩ = some (.int .i64 d1.depth) ∧ ((X20_6.setCell ⟨g20, 0, none⟩ (.int .i64 (mergeS d0 d1).1.depth)).setCell ⟨g20, 1, none⟩ (.slice Ar20 (mergeS d0 d1).1.rows.length cr20)).cell? ⟨w8.heap.size, 1, none⟩ = some (.slice Ar8 d1.rows.length cr8) ∧ ((X20_6.setCell ⟨g20, 0, none⟩ (.int .i64 (mergeS d0 d1).1.depth)).setCell ⟨g20, 1, none⟩ (.slice Ar20 (mergeS d0 d1).1.rows.length cr20)).cell? ⟨w10.heap.size, 0, none⟩ = some (.int .i64 (mergeS d0 d1).1.depth) ∧ ((X20_6.setCell ⟨g20, 0, none⟩ (.int .i64 (mergeS d0 d1).1.depth)).setCell ⟨g20, 1, none⟩ (.slice Ar20 (mergeS d0 d1).1.rows.length cr20)).cell? ⟨w10.heap.size, 1, none⟩ = some (.slice Ar10_0 (mergeS d0 d1).1.rows.length cr10_0) := ⟨zY_0_0, zY_0_1, zY_1_0, zY_1_1, zY_2_0, zY_2_1, zY_3_0, zY_3_1, zY_4_0, zY_4_1, zY_5_0, zY_5_1⟩
      clear zY_0_0 zY_0_1 zY_1_0 zY_1_1 zY_2_0 zY_2_1 zY_3_0 zY_3_1 zY_4_0 zY_4_1 zY_5_0 zY_5_1 EY_0 EY_1 EY_2 EY_3 EY_4 EY_5
      refine anyU_ready (rs := [9]) (by kernel_rfl) (by simp) ?_
      refine ReadyU.cons (i := 9) rfl (fun K hK => ?_) ReadyU.nil
      simp only [List.getElem_toArray, List.getElem_cons_succ, List.getElem_cons_zero]
      refine ite_is (by rfl) ?_
      simp [go_sem, zz0, zz1, hzf]
      refine hK.out _ _ ⟨fun _ => hSY, ?_⟩
      clear hK K
      try simp only [List.getElem_toArray, List.getElem_cons_succ, List.getElem_cons_zero, Act.put, List.setIfInBounds_toArray, List.set_cons_zero, List.set_cons_succ]
      refine nameU ?_
      intro w20 HY20
      rw [← HY20.out] at hT20 hbz20 hSY
      have R20_0 := Lib.hid (Tab.turned RR6.out hT20 hhi20 (by omega))
      have BXR20 : Box2 w20 g20 28 (.int .i64 (mergeS d0 d1).1.depth) (.slice Ar20 (mergeS d0 d1).1.rows.length cr20) := by rw [HY20.out]; exact box_store BZ6
      have hsY20 := hT20.size
      clear HY20 hT20 hzf zz0 zz1 BZ6 RR6
      refine anyU_ready (rs := [10]) (by kernel_rfl) (by simp) ?_
      refine ReadyU.cons (i := 10) rfl (fun K hK => ?_) ReadyU.nil
      simp only [List.getElem_toArray, List.getElem_cons_succ, List.getElem_cons_zero]
      refine ite_is (by rfl) ?_
      simp [go_sem]
      refine hK.out _ _ ⟨fun h => absurd h (by decide), ?_⟩
      clear hK K
      try simp only [List.getElem_toArray, List.getElem_cons_succ, List.getElem_cons_zero, Act.put, List.setIfInBounds_toArray, List.set_cons_zero, List.set_cons_succ]
      clear hSY
      refine anyU_done (by kernel_rfl) ?_ _
      rotate_left
      simp only [List.getElem_toArray, List.getElem_cons_succ, List.getElem_cons_zero]
      refine ite_is (by rfl) ?_
      simp [go_sem]
      have hv7 : Below w19.heap.size w19 (X20_1.alloc (.cells #[.int .i64 0, .slice none 0 0] 28)) := hv1.alloc hsz1 _
      have E7_0 := BX1_19.below hv7 (by omega)
      obtain ⟨z7_0_0, z7_0_1⟩ := E7_0.cells
      have E7_1 := BX2_19.below hv7 (by omega)
      obtain ⟨z7_1_0, z7_1_1⟩ := E7_1.cells
      have E7_2 := BXR5_19.below hv7 (by omega)
      obtain ⟨z7_2_0, z7_2_1⟩ := E7_2.cells
      have E7_3 := BX7_19.below hv7 (by omega)
      obtain ⟨z7_3_0, z7_3_1⟩ := E7_3.cells
      have E7_4 := BX9_19.below hv7 (by omega)
      obtain ⟨z7_4_0, z7_4_1⟩ := E7_4.cells
      have E7_5 := BX11_19.below hv7 (by omega)
      obtain ⟨z7_5_0, z7_5_1⟩ := E7_5.cells
      have hS7 : (X20_1.alloc (.cells #[.int .i64 0, .slice none 0 0] 28)).cell? ⟨w.heap.size, 0, none⟩ = some (.int .i64 d0.depth) ∧ (X20_1.alloc (.cells #[.int .i64 0, .slice none 0 0] 28)).cell? ⟨w.heap.size, 1, none⟩ = some (.slice A0 d0.rows.length c0) ∧ (X20_1.alloc (.cells #[.int .i64 0, .slice none 0 0] 28)).cell? ⟨(w.heap.size + 1), 0, none⟩ = some (.int .i64 d1.depth) ∧ (X20_1.alloc (.cells #[.int .i64 0, .slice none 0 0] 28)).cell? ⟨(w.heap.size + 1), 1, none⟩ = some (.slice A1 d1.rows.length c1) ∧ (X20_1.alloc (.cells #[.int .i64 0, .slice none 0 0] 28)).cell? ⟨g5, 0, none⟩ = some (.int .i64 (mergeS d0 d1).1.depth) ∧ (X20_1.alloc (.cells #[.int .i64 0, .slice none 0 0] 28)).cell? ⟨g5, 1, none⟩ = some (.slice Ar5 (mergeS d0 d1).1.rows.length cr5) ∧ (X20_1.alloc (.cells #[.int .i64 0, .slice none 0 0] 28)).cell? ⟨w6.heap.size, 0, none⟩ = some (.int .i64 d0.depth) ∧ (X20_1.alloc (.cells #[.int .i64 0, .slice none 0 0] 28)).cell? ⟨w6.heap.size, 1, none⟩ = some (.slice Ar6 d0.rows.length cr6) ∧ (X20_1.alloc (.cells #[.int .i64 0, .slice none 0 0] 28)).cell? ⟨w8.heap.size, 0, none⟩ = some (.int .i64 d1.depth) ∧ (X20_1.alloc (.cells #[.int .i64 0, .slice none 0 0] 28)).cell? ⟨w8.heap.size, 1, none⟩ = some (.slice Ar8 d1.rows.length cr8) ∧ (X20_1.alloc (.cells #[.int .i64 0, .slice none 0 0] 28)).cell? ⟨w10.heap.size, 0, none⟩ = some (.int .i64 (mergeS d0 d1).1.depth) ∧ (X20_1.alloc (.cells #[.int .i64 0, .slice none 0 0] 28)).cell? ⟨w10.heap.size, 1, none⟩ = some (.slice Ar10_0 (mergeS d0 d1).1.rows.length cr10_0) := ⟨z7_0_0, z7_0_1, z7_1_0, z7_1_1, z7_2_0, z7_2_1, z7_3_0, z7_3_1, z7_4_0, z7_4_1, z7_5_0, z7_5_1⟩
      clear z7_0_0 z7_0_1 z7_1_0 z7_1_1 z7_2_0 z7_2_1 z7_3_0 z7_3_1 z7_4_0 z7_4_1 z7_5_0 z7_5_1 E7_0 E7_1 E7_2 E7_3 E7_4 E7_5
      refine hK.out _ _ ⟨fun _ => hS7, ?_⟩
      clear hK K
      try simp only [List.getElem_toArray, List.getElem_cons_succ, List.getElem_cons_zero, Act.put, List.setIfInBounds_toArray, List.set_cons_zero, List.set_cons_succ]
      refine nameU ?_
      intro X20_7 HX7
      obtain ⟨g20, HG7⟩ : ∃ g, Hid (X20_1.heap.size = g) := ⟨_, Lib.hid rfl⟩
      rw [HG7.out]
      rw [← HX7.out] at hv7 hS7
      have hsz7 := hv7.size
      have hse7 : X20_1.heap.size ≤ X20_7.heap.size := by rw [HX7.out]; simp
      have hg20 : w19.heap.size ≤ g20 ∧ g20 < X20_7.heap.size := ⟨by rw [← HG7.out]; exact hsz1, by rw [← HG7.out, HX7.out]; simp⟩
      have BZ7 : Box2 X20_7 g20 28 (.int .i64 0) (.slice none 0 0) := by rw [← HG7.out, HX7.out]; exact Box2.new _ _ _ _
      have hbx7 : Below X20_1.heap.size X20_1 X20_7 := by rw [HX7.out]; exact below_a1 _ _
      have RA7 := Lib.hid (Tab.below RA1.out hbx7 (by omega)); clear RA1
      clear HX7 hbx7
      refine anyU_ready (rs := [3]) (by kernel_rfl) (by simp) ?_
      refine ReadyU.cons (i := 3) rfl (fun K hK => ?_) ReadyU.nil
      simp only [List.getElem_toArray, List.getElem_cons_succ, List.getElem_cons_zero]
      refine ite_is (by rfl) ?_
      simp [go_sem]
      refine (toTable_any _ d1 _ _ _ (Tab.below H1.out (hbw19.trans (hv7.mono (by omega))) (Nat.le_refl _)) (by omega) (by omega)).mono ?_
      rintro e X20_8 ⟨rb20, rfl, hrb, hbe⟩
      have hv8 : Below w19.heap.size w19 X20_8 := hv7.trans (hbe.mono hv7.size)
      have hsz8 := hv8.size
      have hse8 := hbe.size
      have RA8 := Lib.hid (Tab.below RA7.out hbe (by omega)); clear RA7
      have RB8 := Lib.hid hrb
      obtain ⟨Arb20, crb20, rfl, _⟩ := hrb.parts
      clear hrb
      have BZ8 := BZ7.below hbe hg20.2; clear BZ7
      replace hg20 : w19.heap.size ≤ g20 ∧ g20 < X20_8.heap.size := ⟨hg20.1, by omega⟩
      clear hbe
      have E8_0 := BX1_19.below hv8 (by omega)
      obtain ⟨z8_0_0, z8_0_1⟩ := E8_0.cells
      have E8_1 := BX2_19.below hv8 (by omega)
      obtain ⟨z8_1_0, z8_1_1⟩ := E8_1.cells
      have E8_2 := BXR5_19.below hv8 (by omega)
      obtain ⟨z8_2_0, z8_2_1⟩ := E8_2.cells
      have E8_3 := BX7_19.below hv8 (by omega)
      obtain ⟨z8_3_0, z8_3_1⟩ := E8_3.cells
      have E8_4 := BX9_19.below hv8 (by omega)
      obtain ⟨z8_4_0, z8_4_1⟩ := E8_4.cells
      have E8_5 := BX11_19.below hv8 (by omega)
      obtain ⟨z8_5_0, z8_5_1⟩ := E8_5.cells
      have hS8 : X20_8.cell? ⟨w.heap.size, 0, none⟩ = some (.int .i64 d0.depth) ∧ X20_8.cell? ⟨w.heap.size, 1, none⟩ = some (.slice A0 d0.rows.length c0) ∧ X20_8.cell? ⟨(w.heap.size + 1), 0, none⟩ = some (.int .i64 d1.depth) ∧ X20_8.cell? ⟨(w.heap.size + 1), 1, none⟩ = some (.slice A1 d1.rows.length c1) ∧ X20_8.cell? ⟨g5, 0, none⟩ = some (.int .i64 (mergeS d0 d1).1.depth) ∧ X20_8.cell? ⟨g5, 1, none⟩ = some (.slice Ar5 (mergeS d0 d1).1.rows.length cr5) ∧ X20_8.cell? ⟨w6.heap.size, 0, none⟩ = some (.int .i64 d0.depth) ∧ X20_8.cell? ⟨w6.heap.size, 1, none⟩ = some (.slice Ar6 d0.rows.length cr6) ∧ X20_8.cell? ⟨w8.heap.size, 0, none⟩ = some (.int .i64 d1.depth) ∧ X20_8.cell? ⟨w8.heap.size, 1, none⟩ = some (.slice Ar8 d1.rows.length cr8) ∧ X20_8.cell? ⟨w10.heap.size, 0, none⟩ = some (.int .i64 (mergeS d0 d1).1.depth) ∧ X20_8.cell? ⟨w10.heap.size, 1, none⟩ = some (.slice Ar10_0 (mergeS d0 d1).1.rows.length cr10_0) := ⟨z8_0_0, z8_0_1, z8_1_0, z8_1_1, z8_2_0, z8_2_1, z8_3_0, z8_3_1, z8_4_0, z8_4_1, z8_5_0, z8_5_1⟩
      clear z8_0_0 z8_0_1 z8_1_0 z8_1_1 z8_2_0 z8_2_1 z8_3_0 z8_3_1 z8_4_0 z8_4_1 z8_5_0 z8_5_1 E8_0 E8_1 E8_2 E8_3 E8_4 E8_5
      refine hK.out _ _ ⟨fun _ => hS8, ?_⟩
      clear hK K
      try simp only [List.getElem_toArray, List.getElem_cons_succ, List.getElem_cons_zero, Act.put, List.setIfInBounds_toArray, List.set_cons_zero, List.set_cons_succ]
      refine anyU_ready (rs := [4]) (by kernel_rfl) (by simp) ?_
      refine ReadyU.cons (i := 4) rfl (fun K hK => ?_) ReadyU.nil
      simp only [List.getElem_toArray, List.getElem_cons_succ, List.getElem_cons_zero]
      refine ite_is (by rfl) ?_
      simp [go_sem]
      refine (MergeTables_impl _ d0 _ _ _ d1 _ _ _ RA8.out (by omega) RB8.out (by omega) (by omega) (by omega) I0.out I1.out).mono ?_
      rintro e X20_9 ⟨r20, rfl, hrr, hbe⟩
      have hv9 : Below w19.heap.size w19 X20_9 := hv8.trans (hbe.mono hv8.size)
      have hsz9 := hv9.size
      have hse9 := hbe.size
      obtain ⟨Ar20, cr20, rfl, _⟩ := hrr.parts
      obtain ⟨lo20, hi20, RR9, hlo20, hlw20, hhi20⟩ : ∃ lo hi, Hid (Tab X20_9 lo hi (.agg #[.int .i64 (mergeS d0 d1).1.depth, .slice Ar20 (mergeS d0 d1).1.rows.length cr20]) (mergeS d0 d1).1) ∧ w19.heap.size ≤ lo ∧ X20_8.heap.size ≤ lo ∧ hi ≤ X20_9.heap.size := ⟨_, _, Lib.hid hrr, by omega, Nat.le_refl _, Nat.le_refl _⟩
      clear hrr RA8 RB8
      have BZ9 := BZ8.below hbe hg20.2; clear BZ8
      have hap20 : g20 < lo20 ∨ hi20 ≤ g20 := .inl (by omega)
      replace hg20 : w19.heap.size ≤ g20 ∧ g20 < X20_9.heap.size := ⟨hg20.1, by omega⟩
      clear hbe
      have E9_0 := BX1_19.below hv9 (by omega)
      obtain ⟨z9_0_0, z9_0_1⟩ := E9_0.cells
      have E9_1 := BX2_19.below hv9 (by omega)
      obtain ⟨z9_1_0, z9_1_1⟩ := E9_1.cells
      have E9_2 := BXR5_19.below hv9 (by omega)
      obtain ⟨z9_2_0, z9_2_1⟩ := E9_2.cells
      have E9_3 := BX7_19.below hv9 (by omega)
      obtain ⟨z9_3_0, z9_3_1⟩ := E9_3.cells
      have E9_4 := BX9_19.below hv9 (by omega)
      obtain ⟨z9_4_0, z9_4_1⟩ := E9_4.cells
      have E9_5 := BX11_19.below hv9 (by omega)
      obtain ⟨z9_5_0, z9_5_1⟩ := E9_5.cells
      have hS9 : X20_9.cell? ⟨w.heap.size, 0, none⟩ = some (.int .i64 d0.depth) ∧ X20_9.cell? ⟨w.heap.size, 1, none⟩ = some (.slice A0 d0.rows.length c0) ∧ X20_9.cell? ⟨(w.heap.size + 1), 0, none⟩ = some (.int .i64 d1.depth) ∧ X20_9.cell? ⟨(w.heap.size + 1), 1, none⟩ = some (.slice A1 d1.rows.length c1) ∧ X20_9.cell? ⟨g5, 0, none⟩ = some (.int .i64 (mergeS d0 d1).1.depth) ∧ X20_9.cell? ⟨g5, 1, none⟩ = some (.slice Ar5 (mergeS d0 d1).1.rows.length cr5) ∧ X20_9.cell? ⟨w6.heap.size, 0, none⟩ = some (.int .i64 d0.depth) ∧ X20_9.cell? ⟨w6.heap.size, 1, none⟩ = some (.slice Ar6 d0.rows.length cr6) ∧ X20_9.cell? ⟨w8.heap.size, 0, none⟩ = some (.int .i64 d1.depth) ∧ X20_9.cell? ⟨w8.heap.size, 1, none⟩ = some (.slice Ar8 d1.rows.length cr8) ∧ X20_9.cell? ⟨w10.heap.size, 0, none⟩ = some (.int .i64 (mergeS d0 d1).1.depth) ∧ X20_9.cell? ⟨w10.heap.size, 1, none⟩ = some (.slice Ar10_0 (mergeS d0 d1).1.rows.length cr10_0) := ⟨z9_0_0, z9_0_1, z9_1_0, z9_1_1, z9_2_0, z9_2_1, z9_3_0, z9_3_1, z9_4_0, z9_4_1, z9_5_0, z9_5_1⟩
      clear z9_0_0 z9_0_1 z9_1_0 z9_1_1 z9_2_0 z9_2_1 z9_3_0 z9_3_1 z9_4_0 z9_4_1 z9_5_0 z9_5_1 E9_0 E9_1 E9_2 E9_3 E9_4 E9_5
      refine hK.out _ _ ⟨fun _ => hS9, ?_⟩
      clear hK K
      try simp only [List.getElem_toArray, List.getElem_cons_succ, List.getElem_cons_zero, Act.put, List.setIfInBounds_toArray, List.set_cons_zero, List.set_cons_succ]
      refine anyU_take (i := 5) (v := .tuple #[.agg #[.int .i64 (mergeS d0 d1).1.depth, .slice Ar20 (mergeS d0 d1).1.rows.length cr20], .bool (mergeS d0 d1).2]) rfl (by kernel_rfl) (by kernel_rfl) (by kernel_rfl) (fun _ _ _ h => h) ⟨by rfl, fun w' hS' => (by obtain ⟨k1, k2, k3, k4, k5, k6, k7, k8, k9, k10, k11, k12⟩ := hS'; go_simp)⟩ hS9 ?_
      simp only [List.getElem_toArray, List.getElem_cons_succ, List.getElem_cons_zero, Act.put, List.setIfInBounds_toArray, List.set_cons_zero, List.set_cons_succ]
      refine anyU_take (i := 6) (v := .agg #[.int .i64 (mergeS d0 d1).1.depth, .slice Ar20 (mergeS d0 d1).1.rows.length cr20]) rfl (by kernel_rfl) (by kernel_rfl) (by kernel_rfl) (fun _ _ _ h => h) ⟨by rfl, fun w' hS' => (by obtain ⟨k1, k2, k3, k4, k5, k6, k7, k8, k9, k10, k11, k12⟩ := hS'; go_simp)⟩ hS9 ?_
      simp only [List.getElem_toArray, List.getElem_cons_succ, List.getElem_cons_zero, Act.put, List.setIfInBounds_toArray, List.set_cons_zero, List.set_cons_succ]
      refine anyU_take (i := 7) (v := .bool (mergeS d0 d1).2) rfl (by kernel_rfl) (by kernel_rfl) (by kernel_rfl) (fun _ _ _ h => h) ⟨by rfl, fun w' hS' => (by obtain ⟨k1, k2, k3, k4, k5, k6, k7, k8, k9, k10, k11, k12⟩ := hS'; go_simp)⟩ hS9 ?_
      simp only [List.getElem_toArray, List.getElem_cons_succ, List.getElem_cons_zero, Act.put, List.setIfInBounds_toArray, List.set_cons_zero, List.set_cons_succ]
      have hzf := (BZ9 : BoxN X20_9 g20 #[.int .i64 0, .slice none 0 0] 28).frozen
      obtain ⟨zz0, zz1⟩ := BZ9.cells
      have hT20 : Turned g20 (g20 + 1) X20_9 ((X20_9.setCell ⟨g20, 0, none⟩ (.int .i64 (mergeS d0 d1).1.depth)).setCell ⟨g20, 1, none⟩ (.slice Ar20 (mergeS d0 d1).1.rows.length cr20)) := (((Turned.refl g20 (g20 + 1) X20_9).setCell (p := ⟨g20, 0, none⟩) (Nat.le_refl _) (Nat.lt_succ_self _) _).setCell (p := ⟨g20, 1, none⟩) (Nat.le_refl _) (Nat.lt_succ_self _) _)
      have hbz20 : Below w19.heap.size w19 ((X20_9.setCell ⟨g20, 0, none⟩ (.int .i64 (mergeS d0 d1).1.depth)).setCell ⟨g20, 1, none⟩ (.slice Ar20 (mergeS d0 d1).1.rows.length cr20)) := hv9.trans ((hT20.below (by omega)).mono hg20.1)
      have EY_0 := BX1_19.below hbz20 (by omega)
      obtain ⟨zY_0_0, zY_0_1⟩ := EY_0.cells
      have EY_1 := BX2_19.below hbz20 (by omega)
      obtain ⟨zY_1_0, zY_1_1⟩ := EY_1.cells
      have EY_2 := BXR5_19.below hbz20 (by omega)
      obtain ⟨zY_2_0, zY_2_1⟩ := EY_2.cells
      have EY_3 := BX7_19.below hbz20 (by omega)
      obtain ⟨zY_3_0, zY_3_1⟩ := EY_3.cells
      have EY_4 := BX9_19.below hbz20 (by omega)
      obtain ⟨zY_4_0, zY_4_1⟩ := EY_4.cells
      have EY_5 := BX11_19.below hbz20 (by omega)
      obtain ⟨zY_5_0, zY_5_1⟩ := EY_5.cells
      have hSY : ((X20_9.setCell ⟨g20, 0, none⟩ (.int .i64 (mergeS d0 d1).1.depth)).setCell ⟨g20, 1, none⟩ (.slice Ar20 (mergeS d0 d1).1.rows.length cr20)).cell? ⟨w.heap.size, 0, none⟩ = some (.int .i64 d0.depth) ∧ ((X20_9.setCell ⟨g20, 0, none⟩ (.int .i64 (mergeS d0 d1).1.depth)).setCell ⟨g20, 1, none⟩ (.slice Ar20 (mergeS d0 d1).1.rows.length cr20)).cell? ⟨w.heap.size, 1, none⟩ = some (.slice A0 d0.rows.length c0) ∧ ((X20_9.setCell ⟨g20, 0, none⟩ (.int .i64 (mergeS d0 d1).1.depth)).setCell ⟨g20, 1, none⟩ (.slice Ar20 (mergeS d0 d1).1.rows.length cr20)).cell? ⟨(w.heap.size + 1), 0, none⟩ = some (.int .i64 d1.depth) ∧ ((X20_9.setCell ⟨g20, 0, none⟩ (.int .i64 (mergeS d0 d1).1.depth)).setCell ⟨g20, 1, none⟩ (.slice Ar20 (mergeS d0 d1).1.rows.length cr20)).cell? ⟨(w.heap.size + 1), 1, none⟩ = some (.slice A1 d1.rows.length c1) ∧ ((X20_9.setCell ⟨g20, 0, none⟩ (.int .i64 (mergeS d0 d1).1.depth)).setCell ⟨g20, 1, none⟩ (.slice Ar20 (mergeS d0 d1).1.rows.length cr20)).cell? ⟨g5, 0, none⟩ = some (.int .i64 (mergeS d0 d1).1.depth) ∧ ((X20_9.setCell ⟨g20, 0, none⟩ (.int .i64 (mergeS d0 d1).1.depth)).setCell ⟨g20, 1, none⟩ (.slice Ar20 (mergeS d0 d1).1.rows.length cr20)).cell? ⟨g5, 1, none⟩ = some (.slice Ar5 (mergeS d0 d1).1.rows.length cr5) ∧ ((X20_9.setCell ⟨g20, 0, none⟩ (.int .i64 (mergeS d0 d1).1.depth)).setCell ⟨g20, 1, none⟩ (.slice Ar20 (mergeS d0 d1).1.rows.length cr20)).cell? ⟨w6.heap.size, 0, none⟩ = some (.int .i64 d0.depth) ∧ ((X20_9.setCell ⟨g20, 0, none⟩ (.int .i64 (mergeS d0 d1).1.depth)).setCell ⟨g20, 1, none⟩ (.slice Ar20 (mergeS d0 d1).1.rows.length cr20)).cell? ⟨w6.heap.size, 1, none⟩ = some (.slice Ar6 d0.rows.length cr6) ∧ ((X20_9.setCell ⟨g20, 0, none⟩ (.int .i64 (mergeS d0 d1).1.depth)).setCell ⟨g20, 1, none⟩ (.slice Ar20 (mergeS d0 d1).1.rows.length cr20)).cell? ⟨w8.heap.size, 0, none⟩ = some (.int .i64 d1.depth) ∧ ((X20_9.setCell ⟨g20, 0, none⟩ (.int .i64 (mergeS d0 d1).1.depth)).setCell ⟨g20, 1, none⟩ (.slice Ar20 (mergeS d0 d1).1.rows.length cr20)).cell? ⟨w8.heap.size, 1, none⟩ = some (.slice Ar8 d1.rows.length cr8) ∧ ((X20_9.setCell ⟨g20, 0, none⟩ (.int .i64 (mergeS d0 d1).1.depth)).setCell ⟨g20, 1, none⟩ (.slice Ar20 (mergeS d0 d1).1.rows.length cr20)).cell? ⟨w10.heap.size, 0, none⟩ = some (.int .i64 (mergeS d0 d1).1.depth) ∧ ((X20_9.setCell ⟨g20, 0, none⟩ (.int .i64 (mergeS d0 d1).1.depth)).setCell ⟨g20, 1, none⟩ (.slice Ar20 (mergeS d0 d1).1.rows.length cr20)).cell? ⟨w10.heap.size, 1, none⟩ = some (.slice Ar10_0 (mergeS d0 d1).1.rows.length cr10_0) := ⟨zY_0_0, zY_0_1, zY_1_0, zY_1_1, zY_2_0, zY_2_1, zY_3_0, zY_3_1, zY_4_0, zY_4_1, zY_5_0, zY_5_1⟩
      clear zY_0_0 zY_0_1 zY_1_0 zY_1_1 zY_2_0 zY_2_1 zY_3_0 zY_3_1 zY_4_0 zY_4_1 zY_5_0 zY_5_1 EY_0 EY_1 EY_2 EY_3 EY_4 EY_5
      refine anyU_ready (rs := [9]) (by kernel_rfl) (by simp) ?_
      refine ReadyU.cons (i := 9) rfl (fun K hK => ?_) ReadyU.nil
      simp only [List.getElem_toArray, List.getElem_cons_succ, List.getElem_cons_zero]
      refine ite_is (by rfl) ?_
      simp [go_sem, zz0, zz1, hzf]
      refine hK.out _ _ ⟨fun _ => hSY, ?_⟩
      clear hK K
      try simp only [List.getElem_toArray, List.getElem_cons_succ, List.getElem_cons_zero, Act.put, List.setIfInBounds_toArray, List.set_cons_zero, List.set_cons_succ]
      refine nameU ?_
      intro w20 HY20
      rw [← HY20.out] at hT20 hbz20 hSY
      have R20_0 := Lib.hid (Tab.turned RR9.out hT20 hhi20 (by omega))
      have BXR20 : Box2 w20 g20 28 (.int .i64 (mergeS d0 d1).1.depth) (.slice Ar20 (mergeS d0 d1).1.rows.length cr20) := by rw [HY20.out]; exact box_store BZ9
      have hsY20 := hT20.size
      clear HY20 hT20 hzf zz0 zz1 BZ9 RR9
      refine anyU_ready (rs := [10]) (by kernel_rfl) (by simp) ?_
      refine ReadyU.cons (i := 10) rfl (fun K hK => ?_) ReadyU.nil
      simp only [List.getElem_toArray, List.getElem_cons_succ, List.getElem_cons_zero]
      refine ite_is (by rfl) ?_
      simp [go_sem]
      refine hK.out _ _ ⟨fun h => absurd h (by decide), ?_⟩
      clear hK K
      try simp only [List.getElem_toArray, List.getElem_cons_succ, List.getElem_cons_zero, Act.put, List.setIfInBounds_toArray, List.set_cons_zero, List.set_cons_succ]
      clear hSY
      refine anyU_done (by kernel_rfl) ?_ _
      rotate_left
      simp only [List.getElem_toArray, List.getElem_cons_succ, List.getElem_cons_zero]
      refine ite_is (by rfl) ?_
      simp [go_sem]
      have hv10 : Below w19.heap.size w19 (V20.alloc (.cells #[.int .i64 0, .slice none 0 0] 28)) := hv0.alloc hsz0 _
      have E10_0 := BX1_19.below hv10 (by omega)
      obtain ⟨z10_0_0, z10_0_1⟩ := E10_0.cells
      have E10_1 := BX2_19.below hv10 (by omega)
      obtain ⟨z10_1_0, z10_1_1⟩ := E10_1.cells
      have E10_2 := BXR5_19.below hv10 (by omega)
      obtain ⟨z10_2_0, z10_2_1⟩ := E10_2.cells
      have E10_3 := BX7_19.below hv10 (by omega)
      obtain ⟨z10_3_0, z10_3_1⟩ := E10_3.cells
      have E10_4 := BX9_19.below hv10 (by omega)
      obtain ⟨z10_4_0, z10_4_1⟩ := E10_4.cells
      have E10_5 := BX11_19.below hv10 (by omega)
      obtain ⟨z10_5_0, z10_5_1⟩ := E10_5.cells
      have hS10 : (V20.alloc (.cells #[.int .i64 0, .slice none 0 0] 28)).cell? ⟨w.heap.size, 0, none⟩ = some (.int .i64 d0.depth) ∧ (V20.alloc (.cells #[.int .i64 0, .slice none 0 0] 28)).cell? ⟨w.heap.size, 1, none⟩ = some (.slice A0 d0.rows.length c0) ∧ (V20.alloc (.cells #[.int .i64 0, .slice none 0 0] 28)).cell? ⟨(w.heap.size + 1), 0, none⟩ = some (.int .i64 d1.depth) ∧ (V20.alloc (.cells #[.int .i64 0, .slice none 0 0] 28)).cell? ⟨(w.heap.size + 1), 1, none⟩ = some (.slice A1 d1.rows.length c1) ∧ (V20.alloc (.cells #[.int .i64 0, .slice none 0 0] 28)).cell? ⟨g5, 0, none⟩ = some (.int .i64 (mergeS d0 d1).1.depth) ∧ (V20.alloc (.cells #[.int .i64 0, .slice none 0 0] 28)).cell? ⟨g5, 1, none⟩ = some (.slice Ar5 (mergeS d0 d1).1.rows.length cr5) ∧ (V20.alloc (.cells #[.int .i64 0, .slice none 0 0] 28)).cell? ⟨w6.heap.size, 0, none⟩ = some (.int .i64 d0.depth) ∧ (V20.alloc (.cells #[.int .i64 0, .slice none 0 0] 28)).cell? ⟨w6.heap.size, 1, none⟩ = some (.slice Ar6 d0.rows.length cr6) ∧ (V20.alloc (.cells #[.int .i64 0, .slice none 0 0] 28)).cell? ⟨w8.heap.size, 0, none⟩ = some (.int .i64 d1.depth) ∧ (V20.alloc (.cells #[.int .i64 0, .slice none 0 0] 28)).cell? ⟨w8.heap.size, 1, none⟩ = some (.slice Ar8 d1.rows.length cr8) ∧ (V20.alloc (.cells #[.int .i64 0, .slice none 0 0] 28)).cell? ⟨w10.heap.size, 0, none⟩ = some (.int .i64 (mergeS d0 d1).1.depth) ∧ (V20.alloc (.cells #[.int .i64 0, .slice none 0 0] 28)).cell? ⟨w10.heap.size, 1, none⟩ = some (.slice Ar10_0 (mergeS d0 d1).1.rows.length cr10_0) := ⟨z10_0_0, z10_0_1, z10_1_0, z10_1_1, z10_2_0, z10_2_1, z10_3_0, z10_3_1, z10_4_0, z10_4_1, z10_5_0, z10_5_1⟩
      clear z10_0_0 z10_0_1 z10_1_0 z10_1_1 z10_2_0 z10_2_1 z10_3_0 z10_3_1 z10_4_0 z10_4_1 z10_5_0 z10_5_1 E10_0 E10_1 E10_2 E10_3 E10_4 E10_5
      refine hK.out _ _ ⟨fun _ => hS10, ?_⟩
      clear hK K
      try simp only [List.getElem_toArray, List.getElem_cons_succ, List.getElem_cons_zero, Act.put, List.setIfInBounds_toArray, List.set_cons_zero, List.set_cons_succ]
      refine nameU ?_
      intro X20_10 HX10
      obtain ⟨g20, HG10⟩ : ∃ g, Hid (V20.heap.size = g) := ⟨_, Lib.hid rfl⟩
      rw [HG10.out]
      rw [← HX10.out] at hv10 hS10
      have hsz10 := hv10.size
      have hse10 : V20.heap.size ≤ X20_10.heap.size := by rw [HX10.out]; simp
      have hg20 : w19.heap.size ≤ g20 ∧ g20 < X20_10.heap.size := ⟨by rw [← HG10.out]; exact hsz0, by rw [← HG10.out, HX10.out]; simp⟩
      have BZ10 : Box2 X20_10 g20 28 (.int .i64 0) (.slice none 0 0) := by rw [← HG10.out, HX10.out]; exact Box2.new _ _ _ _
      have hbx10 : Below V20.heap.size V20 X20_10 := by rw [HX10.out]; exact below_a1 _ _
      clear HX10 hbx10
      refine anyU_ready (rs := [1]) (by kernel_rfl) (by simp) ?_
      refine ReadyU.cons (i := 1) rfl (fun K hK => ?_) ReadyU.nil
      simp only [List.getElem_toArray, List.getElem_cons_succ, List.getElem_cons_zero]
      refine ite_is (by rfl) ?_
      simp [go_sem]
      refine (toTable_any _ d0 _ _ _ (Tab.below H0.out (hbw19.trans (hv10.mono (by omega))) (Nat.le_refl _)) (by omega) (by omega)).mono ?_
      rintro e X20_11 ⟨ra20, rfl, hra, hbe⟩
      have hv11 : Below w19.heap.size w19 X20_11 := hv10.trans (hbe.mono hv10.size)
      have hsz11 := hv11.size
      have hse11 := hbe.size
      have RA11 := Lib.hid hra
      obtain ⟨Ara20, cra20, rfl, _⟩ := hra.parts
      clear hra
      have BZ11 := BZ10.below hbe hg20.2; clear BZ10
      replace hg20 : w19.heap.size ≤ g20 ∧ g20 < X20_11.heap.size := ⟨hg20.1, by omega⟩
      clear hbe
      have E11_0 := BX1_19.below hv11 (by omega)
      obtain ⟨z11_0_0, z11_0_1⟩ := E11_0.cells
      have E11_1 := BX2_19.below hv11 (by omega)
      obtain ⟨z11_1_0, z11_1_1⟩ := E11_1.cells
      have E11_2 := BXR5_19.below hv11 (by omega)
      obtain ⟨z11_2_0, z11_2_1⟩ := E11_2.cells
      have E11_3 := BX7_19.below hv11 (by omega)
      obtain ⟨z11_3_0, z11_3_1⟩ := E11_3.cells
      have E11_4 := BX9_19.below hv11 (by omega)
      obtain ⟨z11_4_0, z11_4_1⟩ := E11_4.cells
      have E11_5 := BX11_19.below hv11 (by omega)
      obtain ⟨z11_5_0, z11_5_1⟩ := E11_5.cells
      have hS11 : X20_11.cell? ⟨w.heap.size, 0, none⟩ = some (.int .i64 d0.depth) ∧ X20_11.cell? ⟨w.heap.size, 1, none⟩ = some (.slice A0 d0.rows.length c0) ∧ X20_11.cell? ⟨(w.heap.size + 1), 0, none⟩ = some (.int .i64 d1.depth) ∧ X20_11.cell? ⟨(w.heap.size + 1), 1, none⟩ = some (.slice A1 d1.rows.length c1) ∧ X20_11.cell? ⟨g5, 0, none⟩ = some (.int .i64 (mergeS d0 d1).1.depth) ∧ X20_11.cell? ⟨g5, 1, none⟩ = some (.slice Ar5 (mergeS d0 d1).1.rows.length cr5) ∧ X20_11.cell? ⟨w6.heap.size, 0, none⟩ = some (.int .i64 d0.depth) ∧ X20_11.cell? ⟨w6.heap.size, 1, none⟩ = some (.slice Ar6 d0.rows.length cr6) ∧ X20_11.cell? ⟨w8.heap.size, 0, none⟩ = some (.int .i64 d1.depth) ∧ X20_11.cell? ⟨w8.heap.size, 1, none⟩ = some (.slice Ar8 d1.rows.length cr8) ∧ X20_11.cell? ⟨w10.heap.size, 0, none⟩ = some (.int .i64 (mergeS d0 d1).1.depth) ∧ X20_11.cell? ⟨w10.heap.size, 1, none⟩ = some (.slice Ar10_0 (mergeS d0 d1).1.rows.length cr10_0) := ⟨z11_0_0, z11_0_1, z11_1_0, z11_1_1, z11_2_0, z11_2_1, z11_3_0, z11_3_1, z11_4_0, z11_4_1, z11_5_0, z11_5_1⟩
      clear z11_0_0 z11_0_1 z11_1_0 z11_1_1 z11_2_0 z11_2_1 z11_3_0 z11_3_1 z11_4_0 z11_4_1 z11_5_0 z11_5_1 E11_0 E11_1 E11_2 E11_3 E11_4 E11_5
      refine hK.out _ _ ⟨fun _ => hS11, ?_⟩
      clear hK K
      try simp only [List.getElem_toArray, List.getElem_cons_succ, List.getElem_cons_zero, Act.put, List.setIfInBounds_toArray, List.set_cons_zero, List.set_cons_succ]
      refine anyU_ready (rs := [3]) (by kernel_rfl) (by simp) ?_
      refine ReadyU.cons (i := 3) rfl (fun K hK => ?_) ReadyU.nil
      simp only [List.getElem_toArray, List.getElem_cons_succ, List.getElem_cons_zero]
      refine ite_is (by rfl) ?_
      simp [go_sem]
      refine (toTable_any _ d1 _ _ _ (Tab.below H1.out (hbw19.trans (hv11.mono (by omega))) (Nat.le_refl _)) (by omega) (by omega)).mono ?_
      rintro e X20_12 ⟨rb20, rfl, hrb, hbe⟩
      have hv12 : Below w19.heap.size w19 X20_12 := hv11.trans (hbe.mono hv11.size)
      have hsz12 := hv12.size
      have hse12 := hbe.size
      have RA12 := Lib.hid (Tab.below RA11.out hbe (by omega)); clear RA11
      have RB12 := Lib.hid hrb
      obtain ⟨Arb20, crb20, rfl, _⟩ := hrb.parts
      clear hrb
      have BZ12 := BZ11.below hbe hg20.2; clear BZ11
      replace hg20 : w19.heap.size ≤ g20 ∧ g20 < X20_12.heap.size := ⟨hg20.1, by omega⟩
      clear hbe
      have E12_0 := BX1_19.below hv12 (by omega)
      obtain ⟨z12_0_0, z12_0_1⟩ := E12_0.cells
      have E12_1 := BX2_19.below hv12 (by omega)
      obtain ⟨z12_1_0, z12_1_1⟩ := E12_1.cells
      have E12_2 := BXR5_19.below hv12 (by omega)
      obtain ⟨z12_2_0, z12_2_1⟩ := E12_2.cells
      have E12_3 := BX7_19.below hv12 (by omega)
      obtain ⟨z12_3_0, z12_3_1⟩ := E12_3.cells
      have E12_4 := BX9_19.below hv12 (by omega)
      obtain ⟨z12_4_0, z12_4_1⟩ := E12_4.cells
      have E12_5 := BX11_19.below hv12 (by omega)
      obtain ⟨z12_5_0, z12_5_1⟩ := E12_5.cells
      have hS12 : X20_12.cell? ⟨w.heap.size, 0, none⟩ = some (.int .i64 d0.depth) ∧ X20_12.cell? ⟨w.heap.size, 1, none⟩ = some (.slice A0 d0.rows.length c0) ∧ X20_12.cell? ⟨(w.heap.size + 1), 0, none⟩ = some (.int .i64 d1.depth) ∧ X20_12.cell? ⟨(w.heap.size + 1), 1, none⟩ = some (.slice A1 d1.rows.length c1) ∧ X20_12.cell? ⟨g5, 0, none⟩ = some (.int .i64 (mergeS d0 d1).1.depth) ∧ X20_12.cell? ⟨g5, 1, none⟩ = some (.slice Ar5 (mergeS d0 d1).1.rows.length cr5) ∧ X20_12.cell? ⟨w6.heap.size, 0, none⟩ = some (.int .i64 d0.depth) ∧ X20_12.cell? ⟨w6.heap.size, 1, none⟩ = some (.slice Ar6 d0.rows.length cr6) ∧ X20_12.cell? ⟨w8.heap.size, 0, none⟩ = some (.int .i64 d1.depth) ∧ X20_12.cell? ⟨w8.heap.size, 1, none⟩ = some (.slice Ar8 d1.rows.length cr8) ∧ X20_12.cell? ⟨w10.heap.size, 0, none⟩ = some (.int .i64 (mergeS d0 d1).1.depth) ∧ X20_12.cell? ⟨w10.heap.size, 1, none⟩ = some (.slice Ar10_0 (mergeS d0 d1).1.rows.length cr10_0) := ⟨z12_0_0, z12_0_1, z12_1_0, z12_1_1, z12_2_0, z12_2_1, z12_3_0, z12_3_1, z12_4_0, z12_4_1, z12_5_0, z12_5_1⟩
      clear z12_0_0 z12_0_1 z12_1_0 z12_1_1 z12_2_0 z12_2_1 z12_3_0 z12_3_1 z12_4_0 z12_4_1 z12_5_0 z12_5_1 E12_0 E12_1 E12_2 E12_3 E12_4 E12_5
      refine hK.out _ _ ⟨fun _ => hS12, ?_⟩
      clear hK K
      try simp only [List.getElem_toArray, List.getElem_cons_succ, List.getElem_cons_zero, Act.put, List.setIfInBounds_toArray, List.set_cons_zero, List.set_cons_succ]
      refine anyU_ready (rs := [4]) (by kernel_rfl) (by simp) ?_
      refine ReadyU.cons (i := 4) rfl (fun K hK => ?_) ReadyU.nil
      simp only [List.getElem_toArray, List.getElem_cons_succ, List.getElem_cons_zero]
      refine ite_is (by rfl) ?_
      simp [go_sem]
      refine (MergeTables_impl _ d0 _ _ _ d1 _ _ _ RA12.out (by omega) RB12.out (by omega) (by omega) (by omega) I0.out I1.out).mono ?_
      rintro e X20_13 ⟨r20, rfl, hrr, hbe⟩
      have hv13 : Below w19.heap.size w19 X20_13 := hv12.trans (hbe.mono hv12.size)
      have hsz13 := hv13.size
      have hse13 := hbe.size
      obtain ⟨Ar20, cr20, rfl, _⟩ := hrr.parts
      obtain ⟨lo20, hi20, RR13, hlo20, hlw20, hhi20⟩ : ∃ lo hi, Hid (Tab X20_13 lo hi (.agg #[.int .i64 (mergeS d0 d1).1.depth, .slice Ar20 (mergeS d0 d1).1.rows.length cr20]) (mergeS d0 d1).1) ∧ w19.heap.size ≤ lo ∧ X20_12.heap.size ≤ lo ∧ hi ≤ X20_13.heap.size := ⟨_, _, Lib.hid hrr, by omega, Nat.le_refl _, Nat.le_refl _⟩
      clear hrr RA12 RB12
      have BZ13 := BZ12.below hbe hg20.2; clear BZ12
      have hap20 : g20 < lo20 ∨ hi20 ≤ g20 := .inl (by omega)
      replace hg20 : w19.heap.size ≤ g20 ∧ g20 < X20_13.heap.size := ⟨hg20.1, by omega⟩
      clear hbe
      have E13_0 := BX1_19.below hv13 (by omega)
      obtain ⟨z13_0_0, z13_0_1⟩ := E13_0.cells
      have E13_1 := BX2_19.below hv13 (by omega)
      obtain ⟨z13_1_0, z13_1_1⟩ := E13_1.cells
      have E13_2 := BXR5_19.below hv13 (by omega)
      obtain ⟨z13_2_0, z13_2_1⟩ := E13_2.cells
      have E13_3 := BX7_19.below hv13 (by omega)
      obtain ⟨z13_3_0, z13_3_1⟩ := E13_3.cells
      have E13_4 := BX9_19.below hv13 (by omega)
      obtain ⟨z13_4_0, z13_4_1⟩ := E13_4.cells
      have E13_5 := BX11_19.below hv13 (by omega)
      obtain ⟨z13_5_0, z13_5_1⟩ := E13_5.cells
      have hS13 : X20_13.cell? ⟨w.heap.size, 0, none⟩ = some (.int .i64 d0.depth) ∧ X20_13.cell? ⟨w.heap.size, 1, none⟩ = some (.slice A0 d0.rows.length c0) ∧ X20_13.cell? ⟨(w.heap.size + 1), 0, none⟩ = some (.int .i64 d1.depth) ∧ X20_13.cell? ⟨(w.heap.size + 1), 1, none⟩ = some (.slice A1 d1.rows.length c1) ∧ X20_13.cell? ⟨g5, 0, none⟩ = some (.int .i64 (mergeS d0 d1).1.depth) ∧ X20_13.cell? ⟨g5, 1, none⟩ = some (.slice Ar5 (mergeS d0 d1).1.rows.length cr5) ∧ X20_13.cell? ⟨w6.heap.size, 0, none⟩ = some (.int .i64 d0.depth) ∧ X20_13.cell? ⟨w6.heap.size, 1, none⟩ = some (.slice Ar6 d0.rows.length cr6) ∧ X20_13.cell? ⟨w8.heap.size, 0, none⟩ = some (.int .i64 d1.depth) ∧ X20_13.cell? ⟨w8.heap.size, 1, none⟩ = some (.slice Ar8 d1.rows.length cr8) ∧ X20_13.cell? ⟨w10.heap.size, 0, none⟩ = some (.int .i64 (mergeS d0 d1).1.depth) ∧ X20_13.cell? ⟨w10.heap.size, 1, none⟩ = some (.slice Ar10_0 (mergeS d0 d1).1.rows.length cr10_0) := ⟨z13_0_0, z13_0_1, z13_1_0, z13_1_1, z13_2_0, z13_2_1, z13_3_0, z13_3_1, z13_4_0, z13_4_1, z13_5_0, z13_5_1⟩
      clear z13_0_0 z13_0_1 z13_1_0 z13_1_1 z13_2_0 z13_2_1 z13_3_0 z13_3_1 z13_4_0 z13_4_1 z13_5_0 z13_5_1 E13_0 E13_1 E13_2 E13_3 E13_4 E13_5
      refine hK.out _ _ ⟨fun _ => hS13, ?_⟩
      clear hK K
      try simp only [List.getElem_toArray, List.getElem_cons_succ, List.getElem_cons_zero, Act.put, List.setIfInBounds_toArray, List.set_cons_zero, List.set_cons_succ]
      refine anyU_take (i := 5) (v := .tuple #[.agg #[.int .i64 (mergeS d0 d1).1.depth, .slice Ar20 (mergeS d0 d1).1.rows.length cr20], .bool (mergeS d0 d1).2]) rfl (by kernel_rfl) (by kernel_rfl) (by kernel_rfl) (fun _ _ _ h => h) ⟨by rfl, fun w' hS' => (by obtain ⟨k1, k2, k3, k4, k5, k6, k7, k8, k9, k10, k11, k12⟩ := hS'; go_simp)⟩ hS13 ?_
      simp only [List.getElem_toArray, List.getElem_cons_succ, List.getElem_cons_zero, Act.put, List.setIfInBounds_toArray, List.set_cons_zero, List.set_cons_succ]
      refine anyU_take (i := 6) (v := .agg #[.int .i64 (mergeS d0 d1).1.depth, .slice Ar20 (mergeS d0 d1).1.rows.length cr20]) rfl (by kernel_rfl) (by kernel_rfl) (by kernel_rfl) (fun _ _ _ h => h) ⟨by rfl, fun w' hS' => (by obtain ⟨k1, k2, k3, k4, k5, k6, k7, k8, k9, k10, k11, k12⟩ := hS'; go_simp)⟩ hS13 ?_
      simp only [List.getElem_toArray, List.getElem_cons_succ, List.getElem_cons_zero, Act.put, List.setIfInBounds_toArray, List.set_cons_zero, List.set_cons_succ]
      refine anyU_take (i := 7) (v := .bool (mergeS d0 d1).2) rfl (by kernel_rfl) (by kernel_rfl) (by kernel_rfl) (fun _ _ _ h => h) ⟨by rfl, fun w' hS' => (by obtain ⟨k1, k2, k3, k4, k5, k6, k7, k8, k9, k10, k11, k12⟩ := hS'; go_simp)⟩ hS13 ?_
      simp only [List.getElem_toArray, List.getElem_cons_succ, List.getElem_cons_zero, Act.put, List.setIfInBounds_toArray, List.set_cons_zero, List.set_cons_succ]
      have hzf := (BZ13 : BoxN X20_13 g20 #[.int .i64 0, .slice none 0 0] 28).frozen
      obtain ⟨zz0, zz1⟩ := BZ13.cells
      have hT20 : Turned g20 (g20 + 1) X20_13 ((X20_13.setCell ⟨g20, 0, none⟩ (.int .i64 (mergeS d0 d1).1.depth)).setCell ⟨g20, 1, none⟩ (.slice Ar20 (mergeS d0 d1).1.rows.length cr20)) := (((Turned.refl g20 (g20 + 1) X20_13).setCell (p := ⟨g20, 0, none⟩) (Nat.le_refl _) (Nat.lt_succ_self _) _).setCell (p := ⟨g20, 1, none⟩) (Nat.le_refl _) (Nat.lt_succ_self _) _)
      have hbz20 : Below w19.heap.size w19 ((X20_13.setCell ⟨g20, 0, none⟩ (.int .i64 (mergeS d0 d1).1.depth)).setCell ⟨g20, 1, none⟩ (.slice Ar20 (mergeS d0 d1).1.rows.length cr20)) := hv13.trans ((hT20.below (by omega)).mono hg20.1)
      have EY_0 := BX1_19.below hbz20 (by omega)
      obtain ⟨zY_0_0, zY_0_1⟩ := EY_0.cells
      have EY_1 := BX2_19.below hbz20 (by omega)
      obtain ⟨zY_1_0, zY_1_1⟩ := EY_1.cells
      have EY_2 := BXR5_19.below hbz20 (by omega)
      obtain ⟨zY_2_0, zY_2_1⟩ := EY_2.cells
      have EY_3 := BX7_19.below hbz20 (by omega)
      obtain ⟨zY_3_0, zY_3_1⟩ := EY_3.cells
      have EY_4 := BX9_19.below hbz20 (by omega)
      obtain ⟨zY_4_0, zY_4_1⟩ := EY_4.cells
      have EY_5 := BX11_19.below hbz20 (by omega)
      obtain ⟨zY_5_0, zY_5_1⟩ := EY_5.cells
      have hSY : ((X20_13.setCell ⟨g20, 0, none⟩ (.int .i64 (mergeS d0 d1).1.depth)).setCell ⟨g20, 1, none⟩ (.slice Ar20 (mergeS d0 d1).1.rows.length cr20)).cell? ⟨w.heap.size, 0, none⟩ = some (.int .i64 d0.depth) ∧ ((X20_13.setCell ⟨g20, 0, none⟩ (.int .i64 (mergeS d0 d1).1.depth)).setCell ⟨g20, 1, none⟩ (.slice Ar20 (mergeS d0 d1).1.rows.length cr20)).cell? ⟨w.heap.size, 1, none⟩ = some (.slice A0 d0.rows.length c0) ∧ ((X20_13.setCell ⟨g20, 0, none⟩ (.int .i64 (mergeS d0 d1).1.depth)).setCell ⟨g20, 1, none⟩ (.slice Ar20 (mergeS d0 d1).1.rows.length cr20)).cell? ⟨(w.heap.size + 1), 0, none⟩ = some (.int .i64 d1.depth) ∧ ((X20_13.setCell ⟨g20, 0, none⟩ (.int .i64 (mergeS d0 d1).1.depth)).setCell ⟨g20, 1, none⟩ (.slice Ar20 (mergeS d0 d1).1.rows.length cr20)).cell? ⟨(w.heap.size + 1), 1, none⟩ = some (.slice A1 d1.rows.length c1) ∧ ((X20_13.setCell ⟨g20, 0, none⟩ (.int .i64 (mergeS d0 d1).1.depth)).setCell ⟨g20, 1, none⟩ (.slice Ar20 (mergeS d0 d1).1.rows.length cr20)).cell? ⟨g5, 0, none⟩ = some (.int .i64 (mergeS d0 d1).1.depth) ∧ ((X20_13.setCell ⟨g20, 0, none⟩ (.int .i64 (mergeS d0 d1).1.depth)).setCell ⟨g20, 1, none⟩ (.slice Ar20 (mergeS d0 d1).1.rows.length cr20)).cell? ⟨g5, 1, none⟩ = some (.slice Ar5 (mergeS d0 d1).1.rows.length cr5) ∧ ((X20_13.setCell ⟨g20, 0, none⟩ (.int .i64 (mergeS d0 d1).1.depth)).setCell ⟨g20, 1, none⟩ (.slice Ar20 (mergeS d0 d1).1.rows.length cr20)).cell? ⟨w6.heap.size, 0, none⟩ = some (.int .i64 d0.depth) ∧ ((X20_13.setCell ⟨g20, 0, none⟩ (.int .i64 (mergeS d0 d1).1.depth)).setCell ⟨g20, 1, none⟩ (.slice Ar20 (mergeS d0 d1).1.rows.length cr20)).cell? ⟨w6.heap.size, 1, none⟩ = some (.slice Ar6 d0.rows.length cr6) ∧ ((X20_13.setCell ⟨g20, 0, none⟩ (.int .i64 (mergeS d0 d1).1.depth)).setCell ⟨g20, 1, none⟩ (.slice Ar20 (mergeS d0 d1).1.rows.length cr20)).cell? ⟨w8.heap.size, 0, none⟩ = some (.int .i64 d1.depth) ∧ ((X20_13.setCell ⟨g20, 0, none⟩ (.int .i64 (mergeS d0 d1).1.depth)).setCell ⟨g20, 1, none⟩ (.slice Ar20 (mergeS d0 d1).1.rows.length cr20)).cell? ⟨w8.heap.size, 1, none⟩ = some (.slice Ar8 d1.rows.length cr8) ∧ ((X20_13.setCell ⟨g20, 0, none⟩ (.int .i64 (mergeS d0 d1).1.depth)).setCell ⟨g20, 1, none⟩ (.slice Ar20 (mergeS d0 d1).1.rows.length cr20)).cell? ⟨w10.heap.size, 0, none⟩ = some (.int .i64 (mergeS d0 d1).1.depth) ∧ ((X20_13.setCell ⟨g20, 0, none⟩ (.int .i64 (mergeS d0 d1).1.depth)).setCell ⟨g20, 1, none⟩ (.slice Ar20 (mergeS d0 d1).1.rows.length cr20)).cell? ⟨w10.heap.size, 1, none⟩ = some (.slice Ar10_0 (mergeS d0 d1).1.rows.length cr10_0) := ⟨zY_0_0, zY_0_1, zY_1_0, zY_1_1, zY_2_0, zY_2_1, zY_3_0, zY_3_1, zY_4_0, zY_4_1, zY_5_0, zY_5_1⟩
      clear zY_0_0 zY_0_1 zY_1_0 zY_1_1 zY_2_0 zY_2_1 zY_3_0 zY_3_1 zY_4_0 zY_4_1 zY_5_0 zY_5_1 EY_0 EY_1 EY_2 EY_3 EY_4 EY_5
      refine anyU_ready (rs := [9]) (by kernel_rfl) (by simp) ?_
      refine ReadyU.cons (i := 9) rfl (fun K hK => ?_) ReadyU.nil
      simp only [List.getElem_toArray, List.getElem_cons_succ, List.getElem_cons_zero]
      refine ite_is (by rfl) ?_
      simp [go_sem, zz0, zz1, hzf]
      refine hK.out _ _ ⟨fun _ => hSY, ?_⟩
      clear hK K
      try simp only [List.getElem_toArray, List.getElem_cons_succ, List.getElem_cons_zero, Act.put, List.setIfInBounds_toArray, List.set_cons_zero, List.set_cons_succ]
      refine nameU ?_
      intro w20 HY20
      rw [← HY20.out] at hT20 hbz20 hSY
      have R20_0 := Lib.hid (Tab.turned RR13.out hT20 hhi20 (by omega))
      have BXR20 : Box2 w20 g20 28 (.int .i64 (mergeS d0 d1).1.depth) (.slice Ar20 (mergeS d0 d1).1.rows.length cr20) := by rw [HY20.out]; exact box_store BZ13
      have hsY20 := hT20.size
      clear HY20 hT20 hzf zz0 zz1 BZ13 RR13
      refine anyU_ready (rs := [10]) (by kernel_rfl) (by simp) ?_
      refine ReadyU.cons (i := 10) rfl (fun K hK => ?_) ReadyU.nil
      simp only [List.getElem_toArray, List.getElem_cons_succ, List.getElem_cons_zero]
      refine ite_is (by rfl) ?_
      simp [go_sem]
      refine hK.out _ _ ⟨fun h => absurd h (by decide), ?_⟩
      clear hK K
      try simp only [List.getElem_toArray, List.getElem_cons_succ, List.getElem_cons_zero, Act.put, List.setIfInBounds_toArray, List.set_cons_zero, List.set_cons_succ]
      clear hSY
      refine anyU_done (by kernel_rfl) ?_ _
      rotate_left
      all_goals
        have hs20 := hbz20.size
        have hbw20 := hbw19.trans (hbz20.mono (by omega))
        clear hbw19
        have R5_0_20 := Lib.hid (Tab.below R5_0_19.out hbz20 (by omega)); clear R5_0_19
        have R6_20 := Lib.hid (Tab.below R6_19.out hbz20 (by omega)); clear R6_19
        have R8_20 := Lib.hid (Tab.below R8_19.out hbz20 (by omega)); clear R8_19
        have R10_0_20 := Lib.hid (Tab.below R10_0_19.out hbz20 (by omega)); clear R10_0_19
        have BX1_20 := BX1_19.below hbz20 (by omega); clear BX1_19
        have BX2_20 := BX2_19.below hbz20 (by omega); clear BX2_19
        have BXR5_20 := BXR5_19.below hbz20 (by omega); clear BXR5_19
        have BX7_20 := BX7_19.below hbz20 (by omega); clear BX7_19
        have BX9_20 := BX9_19.below hbz20 (by omega); clear BX9_19
        have BX11_20 := BX11_19.below hbz20 (by omega); clear BX11_19
        replace hhi20 : hi20 ≤ w20.heap.size := by omega
        replace hg20 : w19.heap.size ≤ g20 ∧ g20 < w20.heap.size := ⟨hg20.1, by omega⟩
        obtain ⟨kc0_0, kc0_1⟩ := BX1_20.cells
        obtain ⟨kc1_0, kc1_1⟩ := BX2_20.cells
        obtain ⟨kc2_0, kc2_1⟩ := BXR5_20.cells
        obtain ⟨kc3_0, kc3_1⟩ := BX7_20.cells
        obtain ⟨kc4_0, kc4_1⟩ := BX9_20.cells
        obtain ⟨kc5_0, kc5_1⟩ := BX11_20.cells
        obtain ⟨kc6_0, kc6_1⟩ := BXR20.cells
        go_wp2_with fail
        clear kc0_0 kc0_1 kc1_0 kc1_1 kc2_0 kc2_1 kc3_0 kc3_1 kc4_0 kc4_1 kc5_0 kc5_1 kc6_0 kc6_1
        refine (eqTable_same _ _ (mergeS d0 d1).1 _ _ _ _ _ R20_0.out R5_0_20.out (by omega) (by omega)).mono ?_
        rintro e w21 ⟨rfl, hb21⟩
        have hs21 := hb21.size
        have hbw21 := hbw20.trans (hb21.mono (by omega))
        clear hbw20
        have R5_0_21 := Lib.hid (Tab.below R5_0_20.out hb21 (by omega)); clear R5_0_20
        have R6_21 := Lib.hid (Tab.below R6_20.out hb21 (by omega)); clear R6_20
        have R8_21 := Lib.hid (Tab.below R8_20.out hb21 (by omega)); clear R8_20
        have R10_0_21 := Lib.hid (Tab.below R10_0_20.out hb21 (by omega)); clear R10_0_20
        have R20_0_21 := Lib.hid (Tab.below R20_0.out hb21 (by omega)); clear R20_0
        have BX1_21 := BX1_20.below hb21 (by omega); clear BX1_20
        have BX2_21 := BX2_20.below hb21 (by omega); clear BX2_20
        have BXR5_21 := BXR5_20.below hb21 (by omega); clear BXR5_20
        have BX7_21 := BX7_20.below hb21 (by omega); clear BX7_20
        have BX9_21 := BX9_20.below hb21 (by omega); clear BX9_20
        have BX11_21 := BX11_20.below hb21 (by omega); clear BX11_20
        have BXR20_21 := BXR20.below hb21 (by omega); clear BXR20
        obtain ⟨kc0_0, kc0_1⟩ := BX1_21.cells
        obtain ⟨kc1_0, kc1_1⟩ := BX2_21.cells
        obtain ⟨kc2_0, kc2_1⟩ := BXR5_21.cells
        obtain ⟨kc3_0, kc3_1⟩ := BX7_21.cells
        obtain ⟨kc4_0, kc4_1⟩ := BX9_21.cells
        obtain ⟨kc5_0, kc5_1⟩ := BX11_21.cells
        obtain ⟨kc6_0, kc6_1⟩ := BXR20_21.cells
        go_wp2_with fail
        clear kc0_0 kc0_1 kc1_0 kc1_1 kc2_0 kc2_1 kc3_0 kc3_1 kc4_0 kc4_1 kc5_0 kc5_1 kc6_0 kc6_1
        refine (heldTable_yes _ (mergeS d0 d1).1 _ _ _ _ R10_0_21.out (by omega) (by omega) (by omega) (by omega)).mono ?_
        rintro e w22 ⟨rfl, hb22⟩
        have hs22 := hb22.size
        have hbw22 := hbw21.trans (hb22.mono (by omega))
        clear hbw21
        have R5_0_22 := Lib.hid (Tab.below R5_0_21.out hb22 (by omega)); clear R5_0_21
        have R6_22 := Lib.hid (Tab.below R6_21.out hb22 (by omega)); clear R6_21
        have R8_22 := Lib.hid (Tab.below R8_21.out hb22 (by omega)); clear R8_21
        have R10_0_22 := Lib.hid (Tab.below R10_0_21.out hb22 (by omega)); clear R10_0_21
        have R20_0_22 := Lib.hid (Tab.below R20_0_21.out hb22 (by omega)); clear R20_0_21
        have BX1_22 := BX1_21.below hb22 (by omega); clear BX1_21
        have BX2_22 := BX2_21.below hb22 (by omega); clear BX2_21
        have BXR5_22 := BXR5_21.below hb22 (by omega); clear BXR5_21
        have BX7_22 := BX7_21.below hb22 (by omega); clear BX7_21
        have BX9_22 := BX9_21.below hb22 (by omega); clear BX9_21
        have BX11_22 := BX11_21.below hb22 (by omega); clear BX11_21
        have BXR20_22 := BXR20_21.below hb22 (by omega); clear BXR20_21
        go_wp2_with fail
        go_ret
        exact ⟨rfl, hbw22⟩
end Go.Proofs.Ytlfdhhmccjkogaa.fnExactMergeTables
