/-
  For all arguments the program's OrientedLabeling returns what the reference's returns, leaves its arguments as they were, and returns memory of its own. No condition.
-/
import Derived.Test.YtkcbocoimbhhaaaGreatOlG
import Derived.Test.YtkcbocoimbhhaaaGreatOlF
import Derived.Deep.RegionHeld3
namespace Go.Proofs.YtkcbocoimbhhaaaGreat.fnExactOrientedLabeling
open Go.ChangeShapes Go.WideShapes Go.ChangeAt Go.RowKit
set_option linter.unusedVariables false

theorem own : ownKnob Tryz.prog.godebug = none := by kernel_rfl
theorem laidOut : laidOutB Tryz.prog = true := by kernel_rfl

set_option maxHeartbeats 8000000 in
set_option maxRecDepth 100000 in
theorem walk (w : World) (v0 : Value) (d0 : PrD) (h0 : Pro w 0 w.heap.size v0 d0) (i0 : d0.Ok) (v1 : Value) (d1 : NetD) (h1 : Net w 0 w.heap.size v1 d1) (i1 : d1.Ok) (v2 : Value) (d2 : List (List Int)) (h2 : IntSS w 0 w.heap.size v2 d2) (i2 : ∀ l ∈ d2, ∀ z ∈ l, I64 z) :
    Calls Tryz.prog 3 #[v0, v1, v2] w fun e w' => e = .returned (.bool true) ∧ Below w.heap.size w w' := by
  have H0 := Lib.hid h0
  obtain ⟨A0, c0, A0', c0', rfl, _⟩ := h0.parts
  clear h0
  have I0 := Lib.hid i0; clear i0
  have H1 := Lib.hid h1
  obtain ⟨A1, c1, A1', c1', A1'', c1'', rfl, _⟩ := h1.parts
  clear h1
  have I1 := Lib.hid i1; clear i1
  have H2 := Lib.hid h2
  obtain ⟨A2, c2, rfl⟩ := h2.shape
  clear h2
  have I2 := Lib.hid i2; clear i2
  have hdl := olL_cnt d0 d1 d2
  have hcnt0 := PrD.cnt_le d0
  have hcnt1 := NetD.cnt_le d1
  have hcnt2 := cnt_le_sz d2
  by_cases cond0 : d0.sz ≤ 1048576
  case neg =>
    obtain ⟨w1, HW1⟩ : ∃ W, Hid (W = w.alloc (.cells #[.int .i64 d0.L, .int .i64 d0.D, .slice A0 d0.nodes.length c0, .slice A0' d0.edges.length c0'] 24)) := ⟨_, Lib.hid rfl⟩
    have hb1 : Below w.heap.size w w1 := by rw [HW1.out]; exact below_a1 _ _
    have hz1 : w.heap.size + 1 ≤ w1.heap.size := by rw [HW1.out]; simp
    have hs1 := hb1.size
    have hbw1 := hb1
    have BX1 : Box4 w1 w.heap.size 24 (.int .i64 d0.L) (.int .i64 d0.D) (.slice A0 d0.nodes.length c0) (.slice A0' d0.edges.length c0') := by rw [HW1.out]; exact Box4.new _ _ _ _ _ _
    obtain ⟨w2, HW2⟩ : ∃ W, Hid (W = w1.alloc (.cells #[.slice A1 d1.ends.length c1, .slice A1' d1.ids.length c1', .slice A1'' d1.inputs.length c1''] 28)) := ⟨_, Lib.hid rfl⟩
    have hb2 : Below w1.heap.size w1 w2 := by rw [HW2.out]; exact below_a1 _ _
    have hz2 : w1.heap.size + 1 ≤ w2.heap.size := by rw [HW2.out]; simp
    have hs2 := hb2.size
    have hbw2 := hbw1.trans (hb2.mono (by omega))
    clear hbw1
    have BX1_2 := BX1.below hb2 (by omega); clear BX1
    have hzz2 : w1.heap.size = w.heap.size + 1 := by rw [HW1.out]; simp
    have BX2 : Box3 w2 (w.heap.size + 1) 28 (.slice A1 d1.ends.length c1) (.slice A1' d1.ids.length c1') (.slice A1'' d1.inputs.length c1'') := by rw [← hzz2, HW2.out]; exact Box3.new _ _ _ _ _
    have hzy2 : w.heap.size + 1 < w2.heap.size := by omega
    clear hzz2
    go_enter Tryz.func3, Tryz.ntmps3
    obtain ⟨kc0_0, kc0_1, kc0_2, kc0_3⟩ := BX1_2.cells
    obtain ⟨kc1_0, kc1_1, kc1_2⟩ := BX2.cells
    go_wp2_with fail
    rw [← HW1.out]; clear HW1
    rw [← HW2.out]; clear HW2
    clear kc0_0 kc0_1 kc0_2 kc0_3 kc1_0 kc1_1 kc1_2
    refine (szProblem_no _ d0 _ _ _ _ (Pro.below H0.out hbw2 (Nat.le_refl _)) (by omega) (by omega) (by omega) (by omega)).mono ?_
    rintro e w3 ⟨rfl, hb3⟩
    have hs3 := hb3.size
    have hbw3 := hbw2.trans (hb3.mono (by omega))
    clear hbw2
    have BX1_3 := BX1_2.below hb3 (by omega); clear BX1_2
    have BX2_3 := BX2.below hb3 (by omega); clear BX2
    obtain ⟨kc0_0, kc0_1, kc0_2, kc0_3⟩ := BX1_3.cells
    obtain ⟨kc1_0, kc1_1, kc1_2⟩ := BX2_3.cells
    go_wp2_with fail
    clear kc0_0 kc0_1 kc0_2 kc0_3 kc1_0 kc1_1 kc1_2
    go_ret
    exact ⟨rfl, hbw3⟩
  by_cases cond1 : d0.sz + d1.sz ≤ 1048576
  case neg =>
    obtain ⟨w1, HW1⟩ : ∃ W, Hid (W = w.alloc (.cells #[.int .i64 d0.L, .int .i64 d0.D, .slice A0 d0.nodes.length c0, .slice A0' d0.edges.length c0'] 24)) := ⟨_, Lib.hid rfl⟩
    have hb1 : Below w.heap.size w w1 := by rw [HW1.out]; exact below_a1 _ _
    have hz1 : w.heap.size + 1 ≤ w1.heap.size := by rw [HW1.out]; simp
    have hs1 := hb1.size
    have hbw1 := hb1
    have BX1 : Box4 w1 w.heap.size 24 (.int .i64 d0.L) (.int .i64 d0.D) (.slice A0 d0.nodes.length c0) (.slice A0' d0.edges.length c0') := by rw [HW1.out]; exact Box4.new _ _ _ _ _ _
    obtain ⟨w2, HW2⟩ : ∃ W, Hid (W = w1.alloc (.cells #[.slice A1 d1.ends.length c1, .slice A1' d1.ids.length c1', .slice A1'' d1.inputs.length c1''] 28)) := ⟨_, Lib.hid rfl⟩
    have hb2 : Below w1.heap.size w1 w2 := by rw [HW2.out]; exact below_a1 _ _
    have hz2 : w1.heap.size + 1 ≤ w2.heap.size := by rw [HW2.out]; simp
    have hs2 := hb2.size
    have hbw2 := hbw1.trans (hb2.mono (by omega))
    clear hbw1
    have BX1_2 := BX1.below hb2 (by omega); clear BX1
    have hzz2 : w1.heap.size = w.heap.size + 1 := by rw [HW1.out]; simp
    have BX2 : Box3 w2 (w.heap.size + 1) 28 (.slice A1 d1.ends.length c1) (.slice A1' d1.ids.length c1') (.slice A1'' d1.inputs.length c1'') := by rw [← hzz2, HW2.out]; exact Box3.new _ _ _ _ _
    have hzy2 : w.heap.size + 1 < w2.heap.size := by omega
    clear hzz2
    go_enter Tryz.func3, Tryz.ntmps3
    obtain ⟨kc0_0, kc0_1, kc0_2, kc0_3⟩ := BX1_2.cells
    obtain ⟨kc1_0, kc1_1, kc1_2⟩ := BX2.cells
    go_wp2_with fail
    rw [← HW1.out]; clear HW1
    rw [← HW2.out]; clear HW2
    clear kc0_0 kc0_1 kc0_2 kc0_3 kc1_0 kc1_1 kc1_2
    refine (szProblem_yes _ d0 _ _ _ _ (Pro.below H0.out hbw2 (Nat.le_refl _)) (by omega) (by omega) (by omega)).mono ?_
    rintro e w3 ⟨rfl, hb3⟩
    have hs3 := hb3.size
    have hbw3 := hbw2.trans (hb3.mono (by omega))
    clear hbw2
    have BX1_3 := BX1_2.below hb3 (by omega); clear BX1_2
    have BX2_3 := BX2.below hb3 (by omega); clear BX2
    obtain ⟨kc0_0, kc0_1, kc0_2, kc0_3⟩ := BX1_3.cells
    obtain ⟨kc1_0, kc1_1, kc1_2⟩ := BX2_3.cells
    go_wp2_with fail
    clear kc0_0 kc0_1 kc0_2 kc0_3 kc1_0 kc1_1 kc1_2
    refine (szNetwork_no _ d1 _ _ _ _ (Net.below H1.out hbw3 (Nat.le_refl _)) (by omega) (by omega) (by omega) (by omega)).mono ?_
    rintro e w4 ⟨rfl, hb4⟩
    have hs4 := hb4.size
    have hbw4 := hbw3.trans (hb4.mono (by omega))
    clear hbw3
    have BX1_4 := BX1_3.below hb4 (by omega); clear BX1_3
    have BX2_4 := BX2_3.below hb4 (by omega); clear BX2_3
    obtain ⟨kc0_0, kc0_1, kc0_2, kc0_3⟩ := BX1_4.cells
    obtain ⟨kc1_0, kc1_1, kc1_2⟩ := BX2_4.cells
    go_wp2_with fail
    clear kc0_0 kc0_1 kc0_2 kc0_3 kc1_0 kc1_1 kc1_2
    go_ret
    exact ⟨rfl, hbw4⟩
  by_cases cond2 : d0.sz + d1.sz + szSS d2 ≤ 1048576
  case neg =>
    obtain ⟨w1, HW1⟩ : ∃ W, Hid (W = w.alloc (.cells #[.int .i64 d0.L, .int .i64 d0.D, .slice A0 d0.nodes.length c0, .slice A0' d0.edges.length c0'] 24)) := ⟨_, Lib.hid rfl⟩
    have hb1 : Below w.heap.size w w1 := by rw [HW1.out]; exact below_a1 _ _
    have hz1 : w.heap.size + 1 ≤ w1.heap.size := by rw [HW1.out]; simp
    have hs1 := hb1.size
    have hbw1 := hb1
    have BX1 : Box4 w1 w.heap.size 24 (.int .i64 d0.L) (.int .i64 d0.D) (.slice A0 d0.nodes.length c0) (.slice A0' d0.edges.length c0') := by rw [HW1.out]; exact Box4.new _ _ _ _ _ _
    obtain ⟨w2, HW2⟩ : ∃ W, Hid (W = w1.alloc (.cells #[.slice A1 d1.ends.length c1, .slice A1' d1.ids.length c1', .slice A1'' d1.inputs.length c1''] 28)) := ⟨_, Lib.hid rfl⟩
    have hb2 : Below w1.heap.size w1 w2 := by rw [HW2.out]; exact below_a1 _ _
    have hz2 : w1.heap.size + 1 ≤ w2.heap.size := by rw [HW2.out]; simp
    have hs2 := hb2.size
    have hbw2 := hbw1.trans (hb2.mono (by omega))
    clear hbw1
    have BX1_2 := BX1.below hb2 (by omega); clear BX1
    have hzz2 : w1.heap.size = w.heap.size + 1 := by rw [HW1.out]; simp
    have BX2 : Box3 w2 (w.heap.size + 1) 28 (.slice A1 d1.ends.length c1) (.slice A1' d1.ids.length c1') (.slice A1'' d1.inputs.length c1'') := by rw [← hzz2, HW2.out]; exact Box3.new _ _ _ _ _
    have hzy2 : w.heap.size + 1 < w2.heap.size := by omega
    clear hzz2
    go_enter Tryz.func3, Tryz.ntmps3
    obtain ⟨kc0_0, kc0_1, kc0_2, kc0_3⟩ := BX1_2.cells
    obtain ⟨kc1_0, kc1_1, kc1_2⟩ := BX2.cells
    go_wp2_with fail
    rw [← HW1.out]; clear HW1
    rw [← HW2.out]; clear HW2
    clear kc0_0 kc0_1 kc0_2 kc0_3 kc1_0 kc1_1 kc1_2
    refine (szProblem_yes _ d0 _ _ _ _ (Pro.below H0.out hbw2 (Nat.le_refl _)) (by omega) (by omega) (by omega)).mono ?_
    rintro e w3 ⟨rfl, hb3⟩
    have hs3 := hb3.size
    have hbw3 := hbw2.trans (hb3.mono (by omega))
    clear hbw2
    have BX1_3 := BX1_2.below hb3 (by omega); clear BX1_2
    have BX2_3 := BX2.below hb3 (by omega); clear BX2
    obtain ⟨kc0_0, kc0_1, kc0_2, kc0_3⟩ := BX1_3.cells
    obtain ⟨kc1_0, kc1_1, kc1_2⟩ := BX2_3.cells
    go_wp2_with fail
    clear kc0_0 kc0_1 kc0_2 kc0_3 kc1_0 kc1_1 kc1_2
    refine (szNetwork_yes _ d1 _ _ _ _ (Net.below H1.out hbw3 (Nat.le_refl _)) (by omega) (by omega) (by omega)).mono ?_
    rintro e w4 ⟨rfl, hb4⟩
    have hs4 := hb4.size
    have hbw4 := hbw3.trans (hb4.mono (by omega))
    clear hbw3
    have BX1_4 := BX1_3.below hb4 (by omega); clear BX1_3
    have BX2_4 := BX2_3.below hb4 (by omega); clear BX2_3
    obtain ⟨kc0_0, kc0_1, kc0_2, kc0_3⟩ := BX1_4.cells
    obtain ⟨kc1_0, kc1_1, kc1_2⟩ := BX2_4.cells
    go_wp2_with fail
    clear kc0_0 kc0_1 kc0_2 kc0_3 kc1_0 kc1_1 kc1_2
    refine (szIntSS_no _ d2 _ _ _ _ (ISS.below H2.out hbw4 (Nat.le_refl _)) (by omega) (by omega) (by omega) (by omega)).mono ?_
    rintro e w5 ⟨rfl, hb5⟩
    have hs5 := hb5.size
    have hbw5 := hbw4.trans (hb5.mono (by omega))
    clear hbw4
    have BX1_5 := BX1_4.below hb5 (by omega); clear BX1_4
    have BX2_5 := BX2_4.below hb5 (by omega); clear BX2_4
    obtain ⟨kc0_0, kc0_1, kc0_2, kc0_3⟩ := BX1_5.cells
    obtain ⟨kc1_0, kc1_1, kc1_2⟩ := BX2_5.cells
    go_wp2_with fail
    clear kc0_0 kc0_1 kc0_2 kc0_3 kc1_0 kc1_1 kc1_2
    go_ret
    exact ⟨rfl, hbw5⟩
  case pos =>
    obtain ⟨w1, HW1⟩ : ∃ W, Hid (W = w.alloc (.cells #[.int .i64 d0.L, .int .i64 d0.D, .slice A0 d0.nodes.length c0, .slice A0' d0.edges.length c0'] 24)) := ⟨_, Lib.hid rfl⟩
    have hb1 : Below w.heap.size w w1 := by rw [HW1.out]; exact below_a1 _ _
    have hz1 : w.heap.size + 1 ≤ w1.heap.size := by rw [HW1.out]; simp
    have hs1 := hb1.size
    have hbw1 := hb1
    have BX1 : Box4 w1 w.heap.size 24 (.int .i64 d0.L) (.int .i64 d0.D) (.slice A0 d0.nodes.length c0) (.slice A0' d0.edges.length c0') := by rw [HW1.out]; exact Box4.new _ _ _ _ _ _
    obtain ⟨w2, HW2⟩ : ∃ W, Hid (W = w1.alloc (.cells #[.slice A1 d1.ends.length c1, .slice A1' d1.ids.length c1', .slice A1'' d1.inputs.length c1''] 28)) := ⟨_, Lib.hid rfl⟩
    have hb2 : Below w1.heap.size w1 w2 := by rw [HW2.out]; exact below_a1 _ _
    have hz2 : w1.heap.size + 1 ≤ w2.heap.size := by rw [HW2.out]; simp
    have hs2 := hb2.size
    have hbw2 := hbw1.trans (hb2.mono (by omega))
    clear hbw1
    have BX1_2 := BX1.below hb2 (by omega); clear BX1
    have hzz2 : w1.heap.size = w.heap.size + 1 := by rw [HW1.out]; simp
    have BX2 : Box3 w2 (w.heap.size + 1) 28 (.slice A1 d1.ends.length c1) (.slice A1' d1.ids.length c1') (.slice A1'' d1.inputs.length c1'') := by rw [← hzz2, HW2.out]; exact Box3.new _ _ _ _ _
    have hzy2 : w.heap.size + 1 < w2.heap.size := by omega
    clear hzz2
    go_enter Tryz.func3, Tryz.ntmps3
    obtain ⟨kc0_0, kc0_1, kc0_2, kc0_3⟩ := BX1_2.cells
    obtain ⟨kc1_0, kc1_1, kc1_2⟩ := BX2.cells
    go_wp2_with fail
    rw [← HW1.out]; clear HW1
    rw [← HW2.out]; clear HW2
    clear kc0_0 kc0_1 kc0_2 kc0_3 kc1_0 kc1_1 kc1_2
    refine (szProblem_yes _ d0 _ _ _ _ (Pro.below H0.out hbw2 (Nat.le_refl _)) (by omega) (by omega) (by omega)).mono ?_
    rintro e w3 ⟨rfl, hb3⟩
    have hs3 := hb3.size
    have hbw3 := hbw2.trans (hb3.mono (by omega))
    clear hbw2
    have BX1_3 := BX1_2.below hb3 (by omega); clear BX1_2
    have BX2_3 := BX2.below hb3 (by omega); clear BX2
    obtain ⟨kc0_0, kc0_1, kc0_2, kc0_3⟩ := BX1_3.cells
    obtain ⟨kc1_0, kc1_1, kc1_2⟩ := BX2_3.cells
    go_wp2_with fail
    clear kc0_0 kc0_1 kc0_2 kc0_3 kc1_0 kc1_1 kc1_2
    refine (szNetwork_yes _ d1 _ _ _ _ (Net.below H1.out hbw3 (Nat.le_refl _)) (by omega) (by omega) (by omega)).mono ?_
    rintro e w4 ⟨rfl, hb4⟩
    have hs4 := hb4.size
    have hbw4 := hbw3.trans (hb4.mono (by omega))
    clear hbw3
    have BX1_4 := BX1_3.below hb4 (by omega); clear BX1_3
    have BX2_4 := BX2_3.below hb4 (by omega); clear BX2_3
    obtain ⟨kc0_0, kc0_1, kc0_2, kc0_3⟩ := BX1_4.cells
    obtain ⟨kc1_0, kc1_1, kc1_2⟩ := BX2_4.cells
    go_wp2_with fail
    clear kc0_0 kc0_1 kc0_2 kc0_3 kc1_0 kc1_1 kc1_2
    refine (szIntSS_yes _ d2 _ _ _ _ (ISS.below H2.out hbw4 (Nat.le_refl _)) (by omega) (by omega) (by omega)).mono ?_
    rintro e w5 ⟨rfl, hb5⟩
    have hs5 := hb5.size
    have hbw5 := hbw4.trans (hb5.mono (by omega))
    clear hbw4
    have BX1_5 := BX1_4.below hb5 (by omega); clear BX1_4
    have BX2_5 := BX2_4.below hb5 (by omega); clear BX2_4
    obtain ⟨kc0_0, kc0_1, kc0_2, kc0_3⟩ := BX1_5.cells
    obtain ⟨kc1_0, kc1_1, kc1_2⟩ := BX2_5.cells
    go_wp2_with fail
    have hq6 : w5.heap.size ≤ w5.heap.size := Nat.le_refl _
    go_region_held3 (fun w' => w'.cell? ⟨w.heap.size, 0, none⟩ = some (.int .i64 d0.L) ∧ w'.cell? ⟨w.heap.size, 1, none⟩ = some (.int .i64 d0.D) ∧ w'.cell? ⟨w.heap.size, 2, none⟩ = some (.slice A0 d0.nodes.length c0) ∧ w'.cell? ⟨w.heap.size, 3, none⟩ = some (.slice A0' d0.edges.length c0') ∧ w'.cell? ⟨(w.heap.size + 1), 0, none⟩ = some (.slice A1 d1.ends.length c1) ∧ w'.cell? ⟨(w.heap.size + 1), 1, none⟩ = some (.slice A1' d1.ids.length c1') ∧ w'.cell? ⟨(w.heap.size + 1), 2, none⟩ = some (.slice A1'' d1.inputs.length c1''))
      (first | exact ⟨kf_6_0, kf_6_1, kf_6_2, kf_6_3, kf_6_4, kf_6_5, kf_6_6⟩ | exact ⟨k2_6_0, k2_6_1, k2_6_2, k2_6_3, k2_6_4, k2_6_5, k2_6_6⟩ | exact ⟨k1_6_0, k1_6_1, k1_6_2, k1_6_3, k1_6_4, k1_6_5, k1_6_6⟩ | exact ⟨k0_6_0, k0_6_1, k0_6_2, k0_6_3, k0_6_4, k0_6_5, k0_6_6⟩ | exact ⟨kc0_0, kc0_1, kc0_2, kc0_3, kc1_0, kc1_1, kc1_2⟩)
      (first | (go_at_call 7; refine (OrientedLabeling_spec _ d0 _ _ _ d1 _ _ _ d2 _ _ _ R6_0_2.out.pro (by omega) R6_1_2.out.net (by omega) R6_2_2.out.ss (by omega) (by omega) (by omega) (by omega) I0.out I1.out I2.out).mono ?_; rintro e w6 ⟨r6_0, rfl, hr6_0, hbr6⟩; have hbz6 : Below w5.heap.size w5 w6 := hb6s2.trans (hbr6.mono hb6s2.size); have hsf6 := hbr6.size; clear hbr6; have R6_0 := Lib.hid hr6_0; obtain ⟨Ar6_0, cr6_0, rfl⟩ := hr6_0.ss.shape; clear hr6_0; have kf_6_0 := (hbz6.cell (p := ⟨w.heap.size, 0, none⟩) (by show w.heap.size < w5.heap.size; omega)).trans kc0_0; have kf_6_1 := (hbz6.cell (p := ⟨w.heap.size, 1, none⟩) (by show w.heap.size < w5.heap.size; omega)).trans kc0_1; have kf_6_2 := (hbz6.cell (p := ⟨w.heap.size, 2, none⟩) (by show w.heap.size < w5.heap.size; omega)).trans kc0_2; have kf_6_3 := (hbz6.cell (p := ⟨w.heap.size, 3, none⟩) (by show w.heap.size < w5.heap.size; omega)).trans kc0_3; have kf_6_4 := (hbz6.cell (p := ⟨(w.heap.size + 1), 0, none⟩) (by show (w.heap.size + 1) < w5.heap.size; omega)).trans kc1_0; have kf_6_5 := (hbz6.cell (p := ⟨(w.heap.size + 1), 1, none⟩) (by show (w.heap.size + 1) < w5.heap.size; omega)).trans kc1_1; have kf_6_6 := (hbz6.cell (p := ⟨(w.heap.size + 1), 2, none⟩) (by show (w.heap.size + 1) < w5.heap.size; omega)).trans kc1_2) | (go_at_call 10; refine (toIntSS_any _ d2 _ _ _ (ISS.below H2.out (hbw5.trans (hb6s1.mono (by omega))) (Nat.le_refl _)) (by have := hb6s1.size; omega) (by omega)).mono ?_; rintro e w6s2 ⟨ra6_2, rfl, hra6, hbe6⟩; have hb6s2 : Below w5.heap.size w5 w6s2 := hb6s1.trans (hbe6.mono hb6s1.size); have hse6_2 := hbe6.size; have R6_0_2 := Lib.hid (ProX.below R6_0_1.out hbe6 (by omega)); clear R6_0_1; have R6_1_2 := Lib.hid (NetX.below R6_1_1.out hbe6 (by omega)); clear R6_1_1; clear hbe6; have R6_2_2 := Lib.hid hra6; obtain ⟨Ara6_2, cra6_2, rfl⟩ := hra6.ss.shape; clear hra6; have hss6_2 := hb6s2.size; have k2_6_0 := (hb6s2.cell (p := ⟨w.heap.size, 0, none⟩) (by show w.heap.size < w5.heap.size; omega)).trans kc0_0; have k2_6_1 := (hb6s2.cell (p := ⟨w.heap.size, 1, none⟩) (by show w.heap.size < w5.heap.size; omega)).trans kc0_1; have k2_6_2 := (hb6s2.cell (p := ⟨w.heap.size, 2, none⟩) (by show w.heap.size < w5.heap.size; omega)).trans kc0_2; have k2_6_3 := (hb6s2.cell (p := ⟨w.heap.size, 3, none⟩) (by show w.heap.size < w5.heap.size; omega)).trans kc0_3; have k2_6_4 := (hb6s2.cell (p := ⟨(w.heap.size + 1), 0, none⟩) (by show (w.heap.size + 1) < w5.heap.size; omega)).trans kc1_0; have k2_6_5 := (hb6s2.cell (p := ⟨(w.heap.size + 1), 1, none⟩) (by show (w.heap.size + 1) < w5.heap.size; omega)).trans kc1_1; have k2_6_6 := (hb6s2.cell (p := ⟨(w.heap.size + 1), 2, none⟩) (by show (w.heap.size + 1) < w5.heap.size; omega)).trans kc1_2) | (go_at_call 9; refine (toNetwork_any _ d1 _ _ _ (Net.below H1.out (hbw5.trans (hb6s0.mono (by omega))) (Nat.le_refl _)) (by have := hb6s0.size; omega) (by omega)).mono ?_; rintro e w6s1 ⟨ra6_1, rfl, hra6, hbe6⟩; have hb6s1 : Below w5.heap.size w5 w6s1 := hb6s0.trans (hbe6.mono hb6s0.size); have hse6_1 := hbe6.size; have R6_0_1 := Lib.hid (ProX.below R6_0_0.out hbe6 (by omega)); clear R6_0_0; clear hbe6; have R6_1_1 := Lib.hid hra6; obtain ⟨Ara6_1, cra6_1, Ara6_1', cra6_1', Ara6_1'', cra6_1'', rfl, _⟩ := hra6.net.parts; clear hra6; have hss6_1 := hb6s1.size; have k1_6_0 := (hb6s1.cell (p := ⟨w.heap.size, 0, none⟩) (by show w.heap.size < w5.heap.size; omega)).trans kc0_0; have k1_6_1 := (hb6s1.cell (p := ⟨w.heap.size, 1, none⟩) (by show w.heap.size < w5.heap.size; omega)).trans kc0_1; have k1_6_2 := (hb6s1.cell (p := ⟨w.heap.size, 2, none⟩) (by show w.heap.size < w5.heap.size; omega)).trans kc0_2; have k1_6_3 := (hb6s1.cell (p := ⟨w.heap.size, 3, none⟩) (by show w.heap.size < w5.heap.size; omega)).trans kc0_3; have k1_6_4 := (hb6s1.cell (p := ⟨(w.heap.size + 1), 0, none⟩) (by show (w.heap.size + 1) < w5.heap.size; omega)).trans kc1_0; have k1_6_5 := (hb6s1.cell (p := ⟨(w.heap.size + 1), 1, none⟩) (by show (w.heap.size + 1) < w5.heap.size; omega)).trans kc1_1; have k1_6_6 := (hb6s1.cell (p := ⟨(w.heap.size + 1), 2, none⟩) (by show (w.heap.size + 1) < w5.heap.size; omega)).trans kc1_2) | (go_at_call 8; refine (toProblem_any _ d0 _ _ _ (Pro.below H0.out hbw5.drew (Nat.le_refl _)) (by show _ ≤ w5.heap.size; omega) (by omega)).mono ?_; rintro e w6s0 ⟨ra6_0, rfl, hra6, hbe6⟩; have hb6s0 : Below w5.heap.size w5 w6s0 := (Below.refl _ _).drew.trans hbe6; clear hbe6; have R6_0_0 := Lib.hid hra6; obtain ⟨Ara6_0, cra6_0, Ara6_0', cra6_0', rfl, _⟩ := hra6.pro.parts; clear hra6; have hss6_0 := hb6s0.size; have k0_6_0 := (hb6s0.cell (p := ⟨w.heap.size, 0, none⟩) (by show w.heap.size < w5.heap.size; omega)).trans kc0_0; have k0_6_1 := (hb6s0.cell (p := ⟨w.heap.size, 1, none⟩) (by show w.heap.size < w5.heap.size; omega)).trans kc0_1; have k0_6_2 := (hb6s0.cell (p := ⟨w.heap.size, 2, none⟩) (by show w.heap.size < w5.heap.size; omega)).trans kc0_2; have k0_6_3 := (hb6s0.cell (p := ⟨w.heap.size, 3, none⟩) (by show w.heap.size < w5.heap.size; omega)).trans kc0_3; have k0_6_4 := (hb6s0.cell (p := ⟨(w.heap.size + 1), 0, none⟩) (by show (w.heap.size + 1) < w5.heap.size; omega)).trans kc1_0; have k0_6_5 := (hb6s0.cell (p := ⟨(w.heap.size + 1), 1, none⟩) (by show (w.heap.size + 1) < w5.heap.size; omega)).trans kc1_1; have k0_6_6 := (hb6s0.cell (p := ⟨(w.heap.size + 1), 2, none⟩) (by show (w.heap.size + 1) < w5.heap.size; omega)).trans kc1_2))
    clear kc0_0 kc0_1 kc0_2 kc0_3 kc1_0 kc1_1 kc1_2 hq6 k0_6_0 k0_6_1 k0_6_2 k0_6_3 k0_6_4 k0_6_5 k0_6_6 k1_6_0 k1_6_1 k1_6_2 k1_6_3 k1_6_4 k1_6_5 k1_6_6 k2_6_0 k2_6_1 k2_6_2 k2_6_3 k2_6_4 k2_6_5 k2_6_6 kf_6_0 kf_6_1 kf_6_2 kf_6_3 kf_6_4 kf_6_5 kf_6_6 R6_0_2 R6_1_2 R6_2_2 hb6s0 hb6s1 hb6s2
    have hs6 := hbz6.size
    have hbw6 := hbw5.trans (hbz6.mono (by omega))
    clear hbw5
    have BX1_6 := BX1_5.below hbz6 (by omega); clear BX1_5
    have BX2_6 := BX2_5.below hbz6 (by omega); clear BX2_5
    obtain ⟨kc0_0, kc0_1, kc0_2, kc0_3⟩ := BX1_6.cells
    obtain ⟨kc1_0, kc1_1, kc1_2⟩ := BX2_6.cells
    go_wp2_with fail
    clear kc0_0 kc0_1 kc0_2 kc0_3 kc1_0 kc1_1 kc1_2
    refine (toProblem_any _ d0 _ _ _ (Pro.below H0.out hbw6 (Nat.le_refl _)) (by omega) (by omega)).mono ?_
    rintro e w7 ⟨r7, rfl, hr7, hb7⟩
    have hs7 := hb7.size
    have hbw7 := hbw6.trans (hb7.mono (by omega))
    clear hbw6
    have R6_0_7 := Lib.hid (ISSx.below R6_0.out hb7 (by omega)); clear R6_0
    have BX1_7 := BX1_6.below hb7 (by omega); clear BX1_6
    have BX2_7 := BX2_6.below hb7 (by omega); clear BX2_6
    have R7 := Lib.hid hr7
    obtain ⟨Ar7, cr7, Ar7', cr7', rfl, _⟩ := hr7.pro.parts
    clear hr7
    obtain ⟨w8, HW8⟩ : ∃ W, Hid (W = w7.alloc (.cells #[.int .i64 d0.L, .int .i64 d0.D, .slice Ar7 d0.nodes.length cr7, .slice Ar7' d0.edges.length cr7'] 34)) := ⟨_, Lib.hid rfl⟩
    have hb8 : Below w7.heap.size w7 w8 := by rw [HW8.out]; exact below_a1 _ _
    have hz8 : w7.heap.size + 1 ≤ w8.heap.size := by rw [HW8.out]; simp
    have hs8 := hb8.size
    have hbw8 := hbw7.trans (hb8.mono (by omega))
    clear hbw7
    have R6_0_8 := Lib.hid (ISSx.below R6_0_7.out hb8 (by omega)); clear R6_0_7
    have R7_8 := Lib.hid (ProX.below R7.out hb8 (by omega)); clear R7
    have BX1_8 := BX1_7.below hb8 (by omega); clear BX1_7
    have BX2_8 := BX2_7.below hb8 (by omega); clear BX2_7
    have BX8 : Box4 w8 w7.heap.size 34 (.int .i64 d0.L) (.int .i64 d0.D) (.slice Ar7 d0.nodes.length cr7) (.slice Ar7' d0.edges.length cr7') := by rw [HW8.out]; exact Box4.new _ _ _ _ _ _
    obtain ⟨kc0_0, kc0_1, kc0_2, kc0_3⟩ := BX1_8.cells
    obtain ⟨kc1_0, kc1_1, kc1_2⟩ := BX2_8.cells
    obtain ⟨kc2_0, kc2_1, kc2_2, kc2_3⟩ := BX8.cells
    have kc0_0p := kc0_0; rw [HW8.out] at kc0_0p
    have kc0_1p := kc0_1; rw [HW8.out] at kc0_1p
    have kc0_2p := kc0_2; rw [HW8.out] at kc0_2p
    have kc0_3p := kc0_3; rw [HW8.out] at kc0_3p
    have kc1_0p := kc1_0; rw [HW8.out] at kc1_0p
    have kc1_1p := kc1_1; rw [HW8.out] at kc1_1p
    have kc1_2p := kc1_2; rw [HW8.out] at kc1_2p
    have kc2_0p := kc2_0; rw [HW8.out] at kc2_0p
    have kc2_1p := kc2_1; rw [HW8.out] at kc2_1p
    have kc2_2p := kc2_2; rw [HW8.out] at kc2_2p
    have kc2_3p := kc2_3; rw [HW8.out] at kc2_3p
    go_wp2_with fail
    rw [← HW8.out]; clear HW8
    clear kc0_0 kc0_1 kc0_2 kc0_3 kc1_0 kc1_1 kc1_2 kc2_0 kc2_1 kc2_2 kc2_3 kc0_0p kc0_1p kc0_2p kc0_3p kc1_0p kc1_1p kc1_2p kc2_0p kc2_1p kc2_2p kc2_3p
    refine (toNetwork_any _ d1 _ _ _ (Net.below H1.out hbw8 (Nat.le_refl _)) (by omega) (by omega)).mono ?_
    rintro e w9 ⟨r9, rfl, hr9, hb9⟩
    have hs9 := hb9.size
    have hbw9 := hbw8.trans (hb9.mono (by omega))
    clear hbw8
    have R6_0_9 := Lib.hid (ISSx.below R6_0_8.out hb9 (by omega)); clear R6_0_8
    have R7_9 := Lib.hid (ProX.below R7_8.out hb9 (by omega)); clear R7_8
    have BX1_9 := BX1_8.below hb9 (by omega); clear BX1_8
    have BX2_9 := BX2_8.below hb9 (by omega); clear BX2_8
    have BX8_9 := BX8.below hb9 (by omega); clear BX8
    have R9 := Lib.hid hr9
    obtain ⟨Ar9, cr9, Ar9', cr9', Ar9'', cr9'', rfl, _⟩ := hr9.net.parts
    clear hr9
    obtain ⟨w10, HW10⟩ : ∃ W, Hid (W = w9.alloc (.cells #[.slice Ar9 d1.ends.length cr9, .slice Ar9' d1.ids.length cr9', .slice Ar9'' d1.inputs.length cr9''] 38)) := ⟨_, Lib.hid rfl⟩
    have hb10 : Below w9.heap.size w9 w10 := by rw [HW10.out]; exact below_a1 _ _
    have hz10 : w9.heap.size + 1 ≤ w10.heap.size := by rw [HW10.out]; simp
    have hs10 := hb10.size
    have hbw10 := hbw9.trans (hb10.mono (by omega))
    clear hbw9
    have R6_0_10 := Lib.hid (ISSx.below R6_0_9.out hb10 (by omega)); clear R6_0_9
    have R7_10 := Lib.hid (ProX.below R7_9.out hb10 (by omega)); clear R7_9
    have R9_10 := Lib.hid (NetX.below R9.out hb10 (by omega)); clear R9
    have BX1_10 := BX1_9.below hb10 (by omega); clear BX1_9
    have BX2_10 := BX2_9.below hb10 (by omega); clear BX2_9
    have BX8_10 := BX8_9.below hb10 (by omega); clear BX8_9
    have BX10 : Box3 w10 w9.heap.size 38 (.slice Ar9 d1.ends.length cr9) (.slice Ar9' d1.ids.length cr9') (.slice Ar9'' d1.inputs.length cr9'') := by rw [HW10.out]; exact Box3.new _ _ _ _ _
    obtain ⟨kc0_0, kc0_1, kc0_2, kc0_3⟩ := BX1_10.cells
    obtain ⟨kc1_0, kc1_1, kc1_2⟩ := BX2_10.cells
    obtain ⟨kc2_0, kc2_1, kc2_2, kc2_3⟩ := BX8_10.cells
    obtain ⟨kc3_0, kc3_1, kc3_2⟩ := BX10.cells
    have kc0_0p := kc0_0; rw [HW10.out] at kc0_0p
    have kc0_1p := kc0_1; rw [HW10.out] at kc0_1p
    have kc0_2p := kc0_2; rw [HW10.out] at kc0_2p
    have kc0_3p := kc0_3; rw [HW10.out] at kc0_3p
    have kc1_0p := kc1_0; rw [HW10.out] at kc1_0p
    have kc1_1p := kc1_1; rw [HW10.out] at kc1_1p
    have kc1_2p := kc1_2; rw [HW10.out] at kc1_2p
    have kc2_0p := kc2_0; rw [HW10.out] at kc2_0p
    have kc2_1p := kc2_1; rw [HW10.out] at kc2_1p
    have kc2_2p := kc2_2; rw [HW10.out] at kc2_2p
    have kc2_3p := kc2_3; rw [HW10.out] at kc2_3p
    have kc3_0p := kc3_0; rw [HW10.out] at kc3_0p
    have kc3_1p := kc3_1; rw [HW10.out] at kc3_1p
    have kc3_2p := kc3_2; rw [HW10.out] at kc3_2p
    go_wp2_with fail
    rw [← HW10.out]; clear HW10
    clear kc0_0 kc0_1 kc0_2 kc0_3 kc1_0 kc1_1 kc1_2 kc2_0 kc2_1 kc2_2 kc2_3 kc3_0 kc3_1 kc3_2 kc0_0p kc0_1p kc0_2p kc0_3p kc1_0p kc1_1p kc1_2p kc2_0p kc2_1p kc2_2p kc2_3p kc3_0p kc3_1p kc3_2p
    refine (toIntSS_any _ d2 _ _ _ (ISS.below H2.out hbw10 (Nat.le_refl _)) (by omega) (by omega)).mono ?_
    rintro e w11 ⟨r11, rfl, hr11, hb11⟩
    have hs11 := hb11.size
    have hbw11 := hbw10.trans (hb11.mono (by omega))
    clear hbw10
    have R6_0_11 := Lib.hid (ISSx.below R6_0_10.out hb11 (by omega)); clear R6_0_10
    have R7_11 := Lib.hid (ProX.below R7_10.out hb11 (by omega)); clear R7_10
    have R9_11 := Lib.hid (NetX.below R9_10.out hb11 (by omega)); clear R9_10
    have BX1_11 := BX1_10.below hb11 (by omega); clear BX1_10
    have BX2_11 := BX2_10.below hb11 (by omega); clear BX2_10
    have BX8_11 := BX8_10.below hb11 (by omega); clear BX8_10
    have BX10_11 := BX10.below hb11 (by omega); clear BX10
    have R11 := Lib.hid hr11
    obtain ⟨Ar11, cr11, rfl⟩ := hr11.ss.shape
    clear hr11
    obtain ⟨kc0_0, kc0_1, kc0_2, kc0_3⟩ := BX1_11.cells
    obtain ⟨kc1_0, kc1_1, kc1_2⟩ := BX2_11.cells
    obtain ⟨kc2_0, kc2_1, kc2_2, kc2_3⟩ := BX8_11.cells
    obtain ⟨kc3_0, kc3_1, kc3_2⟩ := BX10_11.cells
    go_wp2_with fail
    clear kc0_0 kc0_1 kc0_2 kc0_3 kc1_0 kc1_1 kc1_2 kc2_0 kc2_1 kc2_2 kc2_3 kc3_0 kc3_1 kc3_2
    refine (OrientedLabeling_impl _ d0 _ _ _ d1 _ _ _ d2 _ _ _ R7_11.out.pro (by omega) R9_11.out.net (by omega) R11.out.ss (by omega) (by omega) (by omega) (by omega) I0.out I1.out I2.out).mono ?_
    rintro e w12 ⟨r12_0, rfl, hr12_0, hb12⟩
    have hs12 := hb12.size
    have hbw12 := hbw11.trans (hb12.mono (by omega))
    clear hbw11
    have R6_0_12 := Lib.hid (ISSx.below R6_0_11.out hb12 (by omega)); clear R6_0_11
    have R7_12 := Lib.hid (ProX.below R7_11.out hb12 (by omega)); clear R7_11
    have R9_12 := Lib.hid (NetX.below R9_11.out hb12 (by omega)); clear R9_11
    have R11_12 := Lib.hid (ISSx.below R11.out hb12 (by omega)); clear R11
    have BX1_12 := BX1_11.below hb12 (by omega); clear BX1_11
    have BX2_12 := BX2_11.below hb12 (by omega); clear BX2_11
    have BX8_12 := BX8_11.below hb12 (by omega); clear BX8_11
    have BX10_12 := BX10_11.below hb12 (by omega); clear BX10_11
    have R12_0 := Lib.hid hr12_0
    obtain ⟨Ar12_0, cr12_0, rfl⟩ := hr12_0.ss.shape
    clear hr12_0
    obtain ⟨kc0_0, kc0_1, kc0_2, kc0_3⟩ := BX1_12.cells
    obtain ⟨kc1_0, kc1_1, kc1_2⟩ := BX2_12.cells
    obtain ⟨kc2_0, kc2_1, kc2_2, kc2_3⟩ := BX8_12.cells
    obtain ⟨kc3_0, kc3_1, kc3_2⟩ := BX10_12.cells
    go_wp2_with fail
    clear kc0_0 kc0_1 kc0_2 kc0_3 kc1_0 kc1_1 kc1_2 kc2_0 kc2_1 kc2_2 kc2_3 kc3_0 kc3_1 kc3_2
    refine (eqIntSS_same _ _ (olL d0 d1 d2) _ _ _ _ _ R12_0.out.ss R6_0_12.out.ss (by omega) (by omega)).mono ?_
    rintro e w13 ⟨rfl, hb13⟩
    have hs13 := hb13.size
    have hbw13 := hbw12.trans (hb13.mono (by omega))
    clear hbw12
    have R6_0_13 := Lib.hid (ISSx.below R6_0_12.out hb13 (by omega)); clear R6_0_12
    have R7_13 := Lib.hid (ProX.below R7_12.out hb13 (by omega)); clear R7_12
    have R9_13 := Lib.hid (NetX.below R9_12.out hb13 (by omega)); clear R9_12
    have R11_13 := Lib.hid (ISSx.below R11_12.out hb13 (by omega)); clear R11_12
    have R12_0_13 := Lib.hid (ISSx.below R12_0.out hb13 (by omega)); clear R12_0
    have BX1_13 := BX1_12.below hb13 (by omega); clear BX1_12
    have BX2_13 := BX2_12.below hb13 (by omega); clear BX2_12
    have BX8_13 := BX8_12.below hb13 (by omega); clear BX8_12
    have BX10_13 := BX10_12.below hb13 (by omega); clear BX10_12
    obtain ⟨kc0_0, kc0_1, kc0_2, kc0_3⟩ := BX1_13.cells
    obtain ⟨kc1_0, kc1_1, kc1_2⟩ := BX2_13.cells
    obtain ⟨kc2_0, kc2_1, kc2_2, kc2_3⟩ := BX8_13.cells
    obtain ⟨kc3_0, kc3_1, kc3_2⟩ := BX10_13.cells
    go_wp2_with fail
    have hq14 : w13.heap.size ≤ w13.heap.size := Nat.le_refl _
    go_region_held3 (fun w' => w'.cell? ⟨w.heap.size, 0, none⟩ = some (.int .i64 d0.L) ∧ w'.cell? ⟨w.heap.size, 1, none⟩ = some (.int .i64 d0.D) ∧ w'.cell? ⟨w.heap.size, 2, none⟩ = some (.slice A0 d0.nodes.length c0) ∧ w'.cell? ⟨w.heap.size, 3, none⟩ = some (.slice A0' d0.edges.length c0') ∧ w'.cell? ⟨(w.heap.size + 1), 0, none⟩ = some (.slice A1 d1.ends.length c1) ∧ w'.cell? ⟨(w.heap.size + 1), 1, none⟩ = some (.slice A1' d1.ids.length c1') ∧ w'.cell? ⟨(w.heap.size + 1), 2, none⟩ = some (.slice A1'' d1.inputs.length c1'') ∧ w'.cell? ⟨w7.heap.size, 0, none⟩ = some (.int .i64 d0.L) ∧ w'.cell? ⟨w7.heap.size, 1, none⟩ = some (.int .i64 d0.D) ∧ w'.cell? ⟨w7.heap.size, 2, none⟩ = some (.slice Ar7 d0.nodes.length cr7) ∧ w'.cell? ⟨w7.heap.size, 3, none⟩ = some (.slice Ar7' d0.edges.length cr7') ∧ w'.cell? ⟨w9.heap.size, 0, none⟩ = some (.slice Ar9 d1.ends.length cr9) ∧ w'.cell? ⟨w9.heap.size, 1, none⟩ = some (.slice Ar9' d1.ids.length cr9') ∧ w'.cell? ⟨w9.heap.size, 2, none⟩ = some (.slice Ar9'' d1.inputs.length cr9''))
      (first | exact ⟨kc0_0, kc0_1, kc0_2, kc0_3, kc1_0, kc1_1, kc1_2, kc2_0, kc2_1, kc2_2, kc2_3, kc3_0, kc3_1, kc3_2⟩ | exact ⟨(hb14.cell (p := ⟨w.heap.size, 0, none⟩) (by show w.heap.size < w13.heap.size; omega)).trans kc0_0, (hb14.cell (p := ⟨w.heap.size, 1, none⟩) (by show w.heap.size < w13.heap.size; omega)).trans kc0_1, (hb14.cell (p := ⟨w.heap.size, 2, none⟩) (by show w.heap.size < w13.heap.size; omega)).trans kc0_2, (hb14.cell (p := ⟨w.heap.size, 3, none⟩) (by show w.heap.size < w13.heap.size; omega)).trans kc0_3, (hb14.cell (p := ⟨(w.heap.size + 1), 0, none⟩) (by show (w.heap.size + 1) < w13.heap.size; omega)).trans kc1_0, (hb14.cell (p := ⟨(w.heap.size + 1), 1, none⟩) (by show (w.heap.size + 1) < w13.heap.size; omega)).trans kc1_1, (hb14.cell (p := ⟨(w.heap.size + 1), 2, none⟩) (by show (w.heap.size + 1) < w13.heap.size; omega)).trans kc1_2, (hb14.cell (p := ⟨w7.heap.size, 0, none⟩) (by show w7.heap.size < w13.heap.size; omega)).trans kc2_0, (hb14.cell (p := ⟨w7.heap.size, 1, none⟩) (by show w7.heap.size < w13.heap.size; omega)).trans kc2_1, (hb14.cell (p := ⟨w7.heap.size, 2, none⟩) (by show w7.heap.size < w13.heap.size; omega)).trans kc2_2, (hb14.cell (p := ⟨w7.heap.size, 3, none⟩) (by show w7.heap.size < w13.heap.size; omega)).trans kc2_3, (hb14.cell (p := ⟨w9.heap.size, 0, none⟩) (by show w9.heap.size < w13.heap.size; omega)).trans kc3_0, (hb14.cell (p := ⟨w9.heap.size, 1, none⟩) (by show w9.heap.size < w13.heap.size; omega)).trans kc3_1, (hb14.cell (p := ⟨w9.heap.size, 2, none⟩) (by show w9.heap.size < w13.heap.size; omega)).trans kc3_2⟩ | exact ⟨kq14_0, kq14_1, kq14_2, kq14_3, kq14_4, kq14_5, kq14_6, kq14_7, kq14_8, kq14_9, kq14_10, kq14_11, kq14_12, kq14_13⟩)
      (first | (go_at_call 8; refine (toProblem_any _ d0 _ _ _ (Pro.below H0.out hbw13.drew (Nat.le_refl _)) (by show _ ≤ w13.heap.size; omega) (by omega)).mono ?_; rintro e w14 ⟨r14, rfl, hr14, hbd14⟩; have hb14 : Below w13.heap.size w13 w14 := (Below.refl _ _).drew.trans hbd14; clear hbd14; have R14 := Lib.hid hr14; obtain ⟨Ar14, cr14, Ar14', cr14', rfl, _⟩ := hr14.pro.parts; clear hr14) | (go_at_call 13; refine (eqProblem_same _ _ d0 _ _ _ _ _ (Pro.below (R7_13.out.pro) hb14 (by show _ ≤ w13.heap.size; omega)) (R14.out.pro) (by have := hb14.size; show _ ≤ w14.heap.size; exact Nat.le_trans (by show _ ≤ w13.heap.size; omega) this) (Nat.le_refl _)).mono ?_; rintro e wq14 ⟨rfl, hbq14⟩; have kq14_0 := (hbq14.cell (p := ⟨w.heap.size, 0, none⟩) (by have := hb14.size; show w.heap.size < w14.heap.size; exact Nat.lt_of_lt_of_le (by show w.heap.size < w13.heap.size; omega) this)).trans ((hb14.cell (p := ⟨w.heap.size, 0, none⟩) (by show w.heap.size < w13.heap.size; omega)).trans kc0_0); have kq14_1 := (hbq14.cell (p := ⟨w.heap.size, 1, none⟩) (by have := hb14.size; show w.heap.size < w14.heap.size; exact Nat.lt_of_lt_of_le (by show w.heap.size < w13.heap.size; omega) this)).trans ((hb14.cell (p := ⟨w.heap.size, 1, none⟩) (by show w.heap.size < w13.heap.size; omega)).trans kc0_1); have kq14_2 := (hbq14.cell (p := ⟨w.heap.size, 2, none⟩) (by have := hb14.size; show w.heap.size < w14.heap.size; exact Nat.lt_of_lt_of_le (by show w.heap.size < w13.heap.size; omega) this)).trans ((hb14.cell (p := ⟨w.heap.size, 2, none⟩) (by show w.heap.size < w13.heap.size; omega)).trans kc0_2); have kq14_3 := (hbq14.cell (p := ⟨w.heap.size, 3, none⟩) (by have := hb14.size; show w.heap.size < w14.heap.size; exact Nat.lt_of_lt_of_le (by show w.heap.size < w13.heap.size; omega) this)).trans ((hb14.cell (p := ⟨w.heap.size, 3, none⟩) (by show w.heap.size < w13.heap.size; omega)).trans kc0_3); have kq14_4 := (hbq14.cell (p := ⟨(w.heap.size + 1), 0, none⟩) (by have := hb14.size; show (w.heap.size + 1) < w14.heap.size; exact Nat.lt_of_lt_of_le (by show (w.heap.size + 1) < w13.heap.size; omega) this)).trans ((hb14.cell (p := ⟨(w.heap.size + 1), 0, none⟩) (by show (w.heap.size + 1) < w13.heap.size; omega)).trans kc1_0); have kq14_5 := (hbq14.cell (p := ⟨(w.heap.size + 1), 1, none⟩) (by have := hb14.size; show (w.heap.size + 1) < w14.heap.size; exact Nat.lt_of_lt_of_le (by show (w.heap.size + 1) < w13.heap.size; omega) this)).trans ((hb14.cell (p := ⟨(w.heap.size + 1), 1, none⟩) (by show (w.heap.size + 1) < w13.heap.size; omega)).trans kc1_1); have kq14_6 := (hbq14.cell (p := ⟨(w.heap.size + 1), 2, none⟩) (by have := hb14.size; show (w.heap.size + 1) < w14.heap.size; exact Nat.lt_of_lt_of_le (by show (w.heap.size + 1) < w13.heap.size; omega) this)).trans ((hb14.cell (p := ⟨(w.heap.size + 1), 2, none⟩) (by show (w.heap.size + 1) < w13.heap.size; omega)).trans kc1_2); have kq14_7 := (hbq14.cell (p := ⟨w7.heap.size, 0, none⟩) (by have := hb14.size; show w7.heap.size < w14.heap.size; exact Nat.lt_of_lt_of_le (by show w7.heap.size < w13.heap.size; omega) this)).trans ((hb14.cell (p := ⟨w7.heap.size, 0, none⟩) (by show w7.heap.size < w13.heap.size; omega)).trans kc2_0); have kq14_8 := (hbq14.cell (p := ⟨w7.heap.size, 1, none⟩) (by have := hb14.size; show w7.heap.size < w14.heap.size; exact Nat.lt_of_lt_of_le (by show w7.heap.size < w13.heap.size; omega) this)).trans ((hb14.cell (p := ⟨w7.heap.size, 1, none⟩) (by show w7.heap.size < w13.heap.size; omega)).trans kc2_1); have kq14_9 := (hbq14.cell (p := ⟨w7.heap.size, 2, none⟩) (by have := hb14.size; show w7.heap.size < w14.heap.size; exact Nat.lt_of_lt_of_le (by show w7.heap.size < w13.heap.size; omega) this)).trans ((hb14.cell (p := ⟨w7.heap.size, 2, none⟩) (by show w7.heap.size < w13.heap.size; omega)).trans kc2_2); have kq14_10 := (hbq14.cell (p := ⟨w7.heap.size, 3, none⟩) (by have := hb14.size; show w7.heap.size < w14.heap.size; exact Nat.lt_of_lt_of_le (by show w7.heap.size < w13.heap.size; omega) this)).trans ((hb14.cell (p := ⟨w7.heap.size, 3, none⟩) (by show w7.heap.size < w13.heap.size; omega)).trans kc2_3); have kq14_11 := (hbq14.cell (p := ⟨w9.heap.size, 0, none⟩) (by have := hb14.size; show w9.heap.size < w14.heap.size; exact Nat.lt_of_lt_of_le (by show w9.heap.size < w13.heap.size; omega) this)).trans ((hb14.cell (p := ⟨w9.heap.size, 0, none⟩) (by show w9.heap.size < w13.heap.size; omega)).trans kc3_0); have kq14_12 := (hbq14.cell (p := ⟨w9.heap.size, 1, none⟩) (by have := hb14.size; show w9.heap.size < w14.heap.size; exact Nat.lt_of_lt_of_le (by show w9.heap.size < w13.heap.size; omega) this)).trans ((hb14.cell (p := ⟨w9.heap.size, 1, none⟩) (by show w9.heap.size < w13.heap.size; omega)).trans kc3_1); have kq14_13 := (hbq14.cell (p := ⟨w9.heap.size, 2, none⟩) (by have := hb14.size; show w9.heap.size < w14.heap.size; exact Nat.lt_of_lt_of_le (by show w9.heap.size < w13.heap.size; omega) this)).trans ((hb14.cell (p := ⟨w9.heap.size, 2, none⟩) (by show w9.heap.size < w13.heap.size; omega)).trans kc3_2)))
    clear kc0_0 kc0_1 kc0_2 kc0_3 kc1_0 kc1_1 kc1_2 kc2_0 kc2_1 kc2_2 kc2_3 kc3_0 kc3_1 kc3_2 hq14 kq14_0 kq14_1 kq14_2 kq14_3 kq14_4 kq14_5 kq14_6 kq14_7 kq14_8 kq14_9 kq14_10 kq14_11 kq14_12 kq14_13
    clear R14
    have hbz14 : Below w13.heap.size w13 wq14 := Below.trans hb14 (hbq14.mono hb14.size)
    clear hb14 hbq14
    have hs14 := hbz14.size
    have hbw14 := hbw13.trans (hbz14.mono (by omega))
    clear hbw13
    have R6_0_14 := Lib.hid (ISSx.below R6_0_13.out hbz14 (by omega)); clear R6_0_13
    have R7_14 := Lib.hid (ProX.below R7_13.out hbz14 (by omega)); clear R7_13
    have R9_14 := Lib.hid (NetX.below R9_13.out hbz14 (by omega)); clear R9_13
    have R11_14 := Lib.hid (ISSx.below R11_13.out hbz14 (by omega)); clear R11_13
    have R12_0_14 := Lib.hid (ISSx.below R12_0_13.out hbz14 (by omega)); clear R12_0_13
    have BX1_14 := BX1_13.below hbz14 (by omega); clear BX1_13
    have BX2_14 := BX2_13.below hbz14 (by omega); clear BX2_13
    have BX8_14 := BX8_13.below hbz14 (by omega); clear BX8_13
    have BX10_14 := BX10_13.below hbz14 (by omega); clear BX10_13
    obtain ⟨kc0_0, kc0_1, kc0_2, kc0_3⟩ := BX1_14.cells
    obtain ⟨kc1_0, kc1_1, kc1_2⟩ := BX2_14.cells
    obtain ⟨kc2_0, kc2_1, kc2_2, kc2_3⟩ := BX8_14.cells
    obtain ⟨kc3_0, kc3_1, kc3_2⟩ := BX10_14.cells
    go_wp2_with fail
    have hq15 : wq14.heap.size ≤ wq14.heap.size := Nat.le_refl _
    go_region_held3 (fun w' => w'.cell? ⟨w.heap.size, 0, none⟩ = some (.int .i64 d0.L) ∧ w'.cell? ⟨w.heap.size, 1, none⟩ = some (.int .i64 d0.D) ∧ w'.cell? ⟨w.heap.size, 2, none⟩ = some (.slice A0 d0.nodes.length c0) ∧ w'.cell? ⟨w.heap.size, 3, none⟩ = some (.slice A0' d0.edges.length c0') ∧ w'.cell? ⟨(w.heap.size + 1), 0, none⟩ = some (.slice A1 d1.ends.length c1) ∧ w'.cell? ⟨(w.heap.size + 1), 1, none⟩ = some (.slice A1' d1.ids.length c1') ∧ w'.cell? ⟨(w.heap.size + 1), 2, none⟩ = some (.slice A1'' d1.inputs.length c1'') ∧ w'.cell? ⟨w7.heap.size, 0, none⟩ = some (.int .i64 d0.L) ∧ w'.cell? ⟨w7.heap.size, 1, none⟩ = some (.int .i64 d0.D) ∧ w'.cell? ⟨w7.heap.size, 2, none⟩ = some (.slice Ar7 d0.nodes.length cr7) ∧ w'.cell? ⟨w7.heap.size, 3, none⟩ = some (.slice Ar7' d0.edges.length cr7') ∧ w'.cell? ⟨w9.heap.size, 0, none⟩ = some (.slice Ar9 d1.ends.length cr9) ∧ w'.cell? ⟨w9.heap.size, 1, none⟩ = some (.slice Ar9' d1.ids.length cr9') ∧ w'.cell? ⟨w9.heap.size, 2, none⟩ = some (.slice Ar9'' d1.inputs.length cr9''))
      (first | exact ⟨kc0_0, kc0_1, kc0_2, kc0_3, kc1_0, kc1_1, kc1_2, kc2_0, kc2_1, kc2_2, kc2_3, kc3_0, kc3_1, kc3_2⟩ | exact ⟨(hb15.cell (p := ⟨w.heap.size, 0, none⟩) (by show w.heap.size < wq14.heap.size; omega)).trans kc0_0, (hb15.cell (p := ⟨w.heap.size, 1, none⟩) (by show w.heap.size < wq14.heap.size; omega)).trans kc0_1, (hb15.cell (p := ⟨w.heap.size, 2, none⟩) (by show w.heap.size < wq14.heap.size; omega)).trans kc0_2, (hb15.cell (p := ⟨w.heap.size, 3, none⟩) (by show w.heap.size < wq14.heap.size; omega)).trans kc0_3, (hb15.cell (p := ⟨(w.heap.size + 1), 0, none⟩) (by show (w.heap.size + 1) < wq14.heap.size; omega)).trans kc1_0, (hb15.cell (p := ⟨(w.heap.size + 1), 1, none⟩) (by show (w.heap.size + 1) < wq14.heap.size; omega)).trans kc1_1, (hb15.cell (p := ⟨(w.heap.size + 1), 2, none⟩) (by show (w.heap.size + 1) < wq14.heap.size; omega)).trans kc1_2, (hb15.cell (p := ⟨w7.heap.size, 0, none⟩) (by show w7.heap.size < wq14.heap.size; omega)).trans kc2_0, (hb15.cell (p := ⟨w7.heap.size, 1, none⟩) (by show w7.heap.size < wq14.heap.size; omega)).trans kc2_1, (hb15.cell (p := ⟨w7.heap.size, 2, none⟩) (by show w7.heap.size < wq14.heap.size; omega)).trans kc2_2, (hb15.cell (p := ⟨w7.heap.size, 3, none⟩) (by show w7.heap.size < wq14.heap.size; omega)).trans kc2_3, (hb15.cell (p := ⟨w9.heap.size, 0, none⟩) (by show w9.heap.size < wq14.heap.size; omega)).trans kc3_0, (hb15.cell (p := ⟨w9.heap.size, 1, none⟩) (by show w9.heap.size < wq14.heap.size; omega)).trans kc3_1, (hb15.cell (p := ⟨w9.heap.size, 2, none⟩) (by show w9.heap.size < wq14.heap.size; omega)).trans kc3_2⟩ | exact ⟨kq15_0, kq15_1, kq15_2, kq15_3, kq15_4, kq15_5, kq15_6, kq15_7, kq15_8, kq15_9, kq15_10, kq15_11, kq15_12, kq15_13⟩)
      (first | (go_at_call 9; refine (toNetwork_any _ d1 _ _ _ (Net.below H1.out hbw14.drew (Nat.le_refl _)) (by show _ ≤ wq14.heap.size; omega) (by omega)).mono ?_; rintro e w15 ⟨r15, rfl, hr15, hbd15⟩; have hb15 : Below wq14.heap.size wq14 w15 := (Below.refl _ _).drew.trans hbd15; clear hbd15; have R15 := Lib.hid hr15; obtain ⟨Ar15, cr15, Ar15', cr15', Ar15'', cr15'', rfl, _⟩ := hr15.net.parts; clear hr15) | (go_at_call 14; refine (eqNetwork_same _ _ d1 _ _ _ _ _ (Net.below (R9_14.out.net) hb15 (by show _ ≤ wq14.heap.size; omega)) (R15.out.net) (by have := hb15.size; show _ ≤ w15.heap.size; exact Nat.le_trans (by show _ ≤ wq14.heap.size; omega) this) (Nat.le_refl _)).mono ?_; rintro e wq15 ⟨rfl, hbq15⟩; have kq15_0 := (hbq15.cell (p := ⟨w.heap.size, 0, none⟩) (by have := hb15.size; show w.heap.size < w15.heap.size; exact Nat.lt_of_lt_of_le (by show w.heap.size < wq14.heap.size; omega) this)).trans ((hb15.cell (p := ⟨w.heap.size, 0, none⟩) (by show w.heap.size < wq14.heap.size; omega)).trans kc0_0); have kq15_1 := (hbq15.cell (p := ⟨w.heap.size, 1, none⟩) (by have := hb15.size; show w.heap.size < w15.heap.size; exact Nat.lt_of_lt_of_le (by show w.heap.size < wq14.heap.size; omega) this)).trans ((hb15.cell (p := ⟨w.heap.size, 1, none⟩) (by show w.heap.size < wq14.heap.size; omega)).trans kc0_1); have kq15_2 := (hbq15.cell (p := ⟨w.heap.size, 2, none⟩) (by have := hb15.size; show w.heap.size < w15.heap.size; exact Nat.lt_of_lt_of_le (by show w.heap.size < wq14.heap.size; omega) this)).trans ((hb15.cell (p := ⟨w.heap.size, 2, none⟩) (by show w.heap.size < wq14.heap.size; omega)).trans kc0_2); have kq15_3 := (hbq15.cell (p := ⟨w.heap.size, 3, none⟩) (by have := hb15.size; show w.heap.size < w15.heap.size; exact Nat.lt_of_lt_of_le (by show w.heap.size < wq14.heap.size; omega) this)).trans ((hb15.cell (p := ⟨w.heap.size, 3, none⟩) (by show w.heap.size < wq14.heap.size; omega)).trans kc0_3); have kq15_4 := (hbq15.cell (p := ⟨(w.heap.size + 1), 0, none⟩) (by have := hb15.size; show (w.heap.size + 1) < w15.heap.size; exact Nat.lt_of_lt_of_le (by show (w.heap.size + 1) < wq14.heap.size; omega) this)).trans ((hb15.cell (p := ⟨(w.heap.size + 1), 0, none⟩) (by show (w.heap.size + 1) < wq14.heap.size; omega)).trans kc1_0); have kq15_5 := (hbq15.cell (p := ⟨(w.heap.size + 1), 1, none⟩) (by have := hb15.size; show (w.heap.size + 1) < w15.heap.size; exact Nat.lt_of_lt_of_le (by show (w.heap.size + 1) < wq14.heap.size; omega) this)).trans ((hb15.cell (p := ⟨(w.heap.size + 1), 1, none⟩) (by show (w.heap.size + 1) < wq14.heap.size; omega)).trans kc1_1); have kq15_6 := (hbq15.cell (p := ⟨(w.heap.size + 1), 2, none⟩) (by have := hb15.size; show (w.heap.size + 1) < w15.heap.size; exact Nat.lt_of_lt_of_le (by show (w.heap.size + 1) < wq14.heap.size; omega) this)).trans ((hb15.cell (p := ⟨(w.heap.size + 1), 2, none⟩) (by show (w.heap.size + 1) < wq14.heap.size; omega)).trans kc1_2); have kq15_7 := (hbq15.cell (p := ⟨w7.heap.size, 0, none⟩) (by have := hb15.size; show w7.heap.size < w15.heap.size; exact Nat.lt_of_lt_of_le (by show w7.heap.size < wq14.heap.size; omega) this)).trans ((hb15.cell (p := ⟨w7.heap.size, 0, none⟩) (by show w7.heap.size < wq14.heap.size; omega)).trans kc2_0); have kq15_8 := (hbq15.cell (p := ⟨w7.heap.size, 1, none⟩) (by have := hb15.size; show w7.heap.size < w15.heap.size; exact Nat.lt_of_lt_of_le (by show w7.heap.size < wq14.heap.size; omega) this)).trans ((hb15.cell (p := ⟨w7.heap.size, 1, none⟩) (by show w7.heap.size < wq14.heap.size; omega)).trans kc2_1); have kq15_9 := (hbq15.cell (p := ⟨w7.heap.size, 2, none⟩) (by have := hb15.size; show w7.heap.size < w15.heap.size; exact Nat.lt_of_lt_of_le (by show w7.heap.size < wq14.heap.size; omega) this)).trans ((hb15.cell (p := ⟨w7.heap.size, 2, none⟩) (by show w7.heap.size < wq14.heap.size; omega)).trans kc2_2); have kq15_10 := (hbq15.cell (p := ⟨w7.heap.size, 3, none⟩) (by have := hb15.size; show w7.heap.size < w15.heap.size; exact Nat.lt_of_lt_of_le (by show w7.heap.size < wq14.heap.size; omega) this)).trans ((hb15.cell (p := ⟨w7.heap.size, 3, none⟩) (by show w7.heap.size < wq14.heap.size; omega)).trans kc2_3); have kq15_11 := (hbq15.cell (p := ⟨w9.heap.size, 0, none⟩) (by have := hb15.size; show w9.heap.size < w15.heap.size; exact Nat.lt_of_lt_of_le (by show w9.heap.size < wq14.heap.size; omega) this)).trans ((hb15.cell (p := ⟨w9.heap.size, 0, none⟩) (by show w9.heap.size < wq14.heap.size; omega)).trans kc3_0); have kq15_12 := (hbq15.cell (p := ⟨w9.heap.size, 1, none⟩) (by have := hb15.size; show w9.heap.size < w15.heap.size; exact Nat.lt_of_lt_of_le (by show w9.heap.size < wq14.heap.size; omega) this)).trans ((hb15.cell (p := ⟨w9.heap.size, 1, none⟩) (by show w9.heap.size < wq14.heap.size; omega)).trans kc3_1); have kq15_13 := (hbq15.cell (p := ⟨w9.heap.size, 2, none⟩) (by have := hb15.size; show w9.heap.size < w15.heap.size; exact Nat.lt_of_lt_of_le (by show w9.heap.size < wq14.heap.size; omega) this)).trans ((hb15.cell (p := ⟨w9.heap.size, 2, none⟩) (by show w9.heap.size < wq14.heap.size; omega)).trans kc3_2)))
    clear kc0_0 kc0_1 kc0_2 kc0_3 kc1_0 kc1_1 kc1_2 kc2_0 kc2_1 kc2_2 kc2_3 kc3_0 kc3_1 kc3_2 hq15 kq15_0 kq15_1 kq15_2 kq15_3 kq15_4 kq15_5 kq15_6 kq15_7 kq15_8 kq15_9 kq15_10 kq15_11 kq15_12 kq15_13
    clear R15
    have hbz15 : Below wq14.heap.size wq14 wq15 := Below.trans hb15 (hbq15.mono hb15.size)
    clear hb15 hbq15
    have hs15 := hbz15.size
    have hbw15 := hbw14.trans (hbz15.mono (by omega))
    clear hbw14
    have R6_0_15 := Lib.hid (ISSx.below R6_0_14.out hbz15 (by omega)); clear R6_0_14
    have R7_15 := Lib.hid (ProX.below R7_14.out hbz15 (by omega)); clear R7_14
    have R9_15 := Lib.hid (NetX.below R9_14.out hbz15 (by omega)); clear R9_14
    have R11_15 := Lib.hid (ISSx.below R11_14.out hbz15 (by omega)); clear R11_14
    have R12_0_15 := Lib.hid (ISSx.below R12_0_14.out hbz15 (by omega)); clear R12_0_14
    have BX1_15 := BX1_14.below hbz15 (by omega); clear BX1_14
    have BX2_15 := BX2_14.below hbz15 (by omega); clear BX2_14
    have BX8_15 := BX8_14.below hbz15 (by omega); clear BX8_14
    have BX10_15 := BX10_14.below hbz15 (by omega); clear BX10_14
    obtain ⟨kc0_0, kc0_1, kc0_2, kc0_3⟩ := BX1_15.cells
    obtain ⟨kc1_0, kc1_1, kc1_2⟩ := BX2_15.cells
    obtain ⟨kc2_0, kc2_1, kc2_2, kc2_3⟩ := BX8_15.cells
    obtain ⟨kc3_0, kc3_1, kc3_2⟩ := BX10_15.cells
    go_wp2_with fail
    clear kc0_0 kc0_1 kc0_2 kc0_3 kc1_0 kc1_1 kc1_2 kc2_0 kc2_1 kc2_2 kc2_3 kc3_0 kc3_1 kc3_2
    refine (toIntSS_any _ d2 _ _ _ (ISS.below H2.out hbw15 (Nat.le_refl _)) (by omega) (by omega)).mono ?_
    rintro e w16 ⟨r16, rfl, hr16, hb16⟩
    have hs16 := hb16.size
    have hbw16 := hbw15.trans (hb16.mono (by omega))
    clear hbw15
    have R6_0_16 := Lib.hid (ISSx.below R6_0_15.out hb16 (by omega)); clear R6_0_15
    have R7_16 := Lib.hid (ProX.below R7_15.out hb16 (by omega)); clear R7_15
    have R9_16 := Lib.hid (NetX.below R9_15.out hb16 (by omega)); clear R9_15
    have R11_16 := Lib.hid (ISSx.below R11_15.out hb16 (by omega)); clear R11_15
    have R12_0_16 := Lib.hid (ISSx.below R12_0_15.out hb16 (by omega)); clear R12_0_15
    have BX1_16 := BX1_15.below hb16 (by omega); clear BX1_15
    have BX2_16 := BX2_15.below hb16 (by omega); clear BX2_15
    have BX8_16 := BX8_15.below hb16 (by omega); clear BX8_15
    have BX10_16 := BX10_15.below hb16 (by omega); clear BX10_15
    have R16 := Lib.hid hr16
    obtain ⟨Ar16, cr16, rfl⟩ := hr16.ss.shape
    clear hr16
    obtain ⟨kc0_0, kc0_1, kc0_2, kc0_3⟩ := BX1_16.cells
    obtain ⟨kc1_0, kc1_1, kc1_2⟩ := BX2_16.cells
    obtain ⟨kc2_0, kc2_1, kc2_2, kc2_3⟩ := BX8_16.cells
    obtain ⟨kc3_0, kc3_1, kc3_2⟩ := BX10_16.cells
    go_wp2_with fail
    clear kc0_0 kc0_1 kc0_2 kc0_3 kc1_0 kc1_1 kc1_2 kc2_0 kc2_1 kc2_2 kc2_3 kc3_0 kc3_1 kc3_2
    refine (eqIntSS_same _ _ d2 _ _ _ _ _ R11_16.out.ss R16.out.ss (by omega) (by omega)).mono ?_
    rintro e w17 ⟨rfl, hb17⟩
    have hs17 := hb17.size
    have hbw17 := hbw16.trans (hb17.mono (by omega))
    clear hbw16
    have R6_0_17 := Lib.hid (ISSx.below R6_0_16.out hb17 (by omega)); clear R6_0_16
    have R7_17 := Lib.hid (ProX.below R7_16.out hb17 (by omega)); clear R7_16
    have R9_17 := Lib.hid (NetX.below R9_16.out hb17 (by omega)); clear R9_16
    have R11_17 := Lib.hid (ISSx.below R11_16.out hb17 (by omega)); clear R11_16
    have R12_0_17 := Lib.hid (ISSx.below R12_0_16.out hb17 (by omega)); clear R12_0_16
    have R16_17 := Lib.hid (ISSx.below R16.out hb17 (by omega)); clear R16
    have BX1_17 := BX1_16.below hb17 (by omega); clear BX1_16
    have BX2_17 := BX2_16.below hb17 (by omega); clear BX2_16
    have BX8_17 := BX8_16.below hb17 (by omega); clear BX8_16
    have BX10_17 := BX10_16.below hb17 (by omega); clear BX10_16
    clear R16_17
    obtain ⟨kc0_0, kc0_1, kc0_2, kc0_3⟩ := BX1_17.cells
    obtain ⟨kc1_0, kc1_1, kc1_2⟩ := BX2_17.cells
    obtain ⟨kc2_0, kc2_1, kc2_2, kc2_3⟩ := BX8_17.cells
    obtain ⟨kc3_0, kc3_1, kc3_2⟩ := BX10_17.cells
    go_wp2_with fail
    clear kc0_0 kc0_1 kc0_2 kc0_3 kc1_0 kc1_1 kc1_2 kc2_0 kc2_1 kc2_2 kc2_3 kc3_0 kc3_1 kc3_2
    refine (markProblem_any _ d0 _ _ _ _ R7_17.out (by omega) (by omega) (by omega) (by omega)).mono ?_
    rintro e w18 ⟨rfl, hr18, ht18⟩
    have hs18 := ht18.size
    have hbw18 := hbw17.trans ((ht18.below (by omega)).mono (by omega))
    clear hbw17
    have R6_0_18 := Lib.hid (ISSx.turned R6_0_17.out ht18 (by omega) (by omega)); clear R6_0_17
    have R9_18 := Lib.hid (NetX.turned R9_17.out ht18 (by omega) (by omega)); clear R9_17
    have R11_18 := Lib.hid (ISSx.turned R11_17.out ht18 (by omega) (by omega)); clear R11_17
    have R12_0_18 := Lib.hid (ISSx.turned R12_0_17.out ht18 (by omega) (by omega)); clear R12_0_17
    have BX1_18 : Box4 w18 w.heap.size 24 (.int .i64 d0.L) (.int .i64 d0.D) (.slice A0 d0.nodes.length c0) (.slice A0' d0.edges.length c0') := (ht18.block _ (by omega) (by omega)).trans BX1_17; clear BX1_17
    have BX2_18 : Box3 w18 (w.heap.size + 1) 28 (.slice A1 d1.ends.length c1) (.slice A1' d1.ids.length c1') (.slice A1'' d1.inputs.length c1'') := (ht18.block _ (by omega) (by omega)).trans BX2_17; clear BX2_17
    have BX8_18 : Box4 w18 w7.heap.size 34 (.int .i64 d0.L) (.int .i64 d0.D) (.slice Ar7 d0.nodes.length cr7) (.slice Ar7' d0.edges.length cr7') := (ht18.block _ (by omega) (by omega)).trans BX8_17; clear BX8_17
    have BX10_18 : Box3 w18 w9.heap.size 38 (.slice Ar9 d1.ends.length cr9) (.slice Ar9' d1.ids.length cr9') (.slice Ar9'' d1.inputs.length cr9'') := (ht18.block _ (by omega) (by omega)).trans BX10_17; clear BX10_17
    clear R7_17
    have R7_18 := Lib.hid hr18; clear hr18
    obtain ⟨kc0_0, kc0_1, kc0_2, kc0_3⟩ := BX1_18.cells
    obtain ⟨kc1_0, kc1_1, kc1_2⟩ := BX2_18.cells
    obtain ⟨kc2_0, kc2_1, kc2_2, kc2_3⟩ := BX8_18.cells
    obtain ⟨kc3_0, kc3_1, kc3_2⟩ := BX10_18.cells
    go_wp2_with fail
    clear kc0_0 kc0_1 kc0_2 kc0_3 kc1_0 kc1_1 kc1_2 kc2_0 kc2_1 kc2_2 kc2_3 kc3_0 kc3_1 kc3_2
    refine (markNetwork_any _ d1 _ _ _ _ R9_18.out (by omega) (by omega) (by omega) (by omega)).mono ?_
    rintro e w19 ⟨rfl, hr19, ht19⟩
    have hs19 := ht19.size
    have hbw19 := hbw18.trans ((ht19.below (by omega)).mono (by omega))
    clear hbw18
    have R6_0_19 := Lib.hid (ISSx.turned R6_0_18.out ht19 (by omega) (by omega)); clear R6_0_18
    have R7_19 := Lib.hid (ProX.turned R7_18.out ht19 (by omega) (by omega)); clear R7_18
    have R11_19 := Lib.hid (ISSx.turned R11_18.out ht19 (by omega) (by omega)); clear R11_18
    have R12_0_19 := Lib.hid (ISSx.turned R12_0_18.out ht19 (by omega) (by omega)); clear R12_0_18
    have BX1_19 : Box4 w19 w.heap.size 24 (.int .i64 d0.L) (.int .i64 d0.D) (.slice A0 d0.nodes.length c0) (.slice A0' d0.edges.length c0') := (ht19.block _ (by omega) (by omega)).trans BX1_18; clear BX1_18
    have BX2_19 : Box3 w19 (w.heap.size + 1) 28 (.slice A1 d1.ends.length c1) (.slice A1' d1.ids.length c1') (.slice A1'' d1.inputs.length c1'') := (ht19.block _ (by omega) (by omega)).trans BX2_18; clear BX2_18
    have BX8_19 : Box4 w19 w7.heap.size 34 (.int .i64 d0.L) (.int .i64 d0.D) (.slice Ar7 d0.nodes.length cr7) (.slice Ar7' d0.edges.length cr7') := (ht19.block _ (by omega) (by omega)).trans BX8_18; clear BX8_18
    have BX10_19 : Box3 w19 w9.heap.size 38 (.slice Ar9 d1.ends.length cr9) (.slice Ar9' d1.ids.length cr9') (.slice Ar9'' d1.inputs.length cr9'') := (ht19.block _ (by omega) (by omega)).trans BX10_18; clear BX10_18
    clear R9_18
    have R9_19 := Lib.hid hr19; clear hr19
    obtain ⟨kc0_0, kc0_1, kc0_2, kc0_3⟩ := BX1_19.cells
    obtain ⟨kc1_0, kc1_1, kc1_2⟩ := BX2_19.cells
    obtain ⟨kc2_0, kc2_1, kc2_2, kc2_3⟩ := BX8_19.cells
    obtain ⟨kc3_0, kc3_1, kc3_2⟩ := BX10_19.cells
    go_wp2_with fail
    clear kc0_0 kc0_1 kc0_2 kc0_3 kc1_0 kc1_1 kc1_2 kc2_0 kc2_1 kc2_2 kc2_3 kc3_0 kc3_1 kc3_2
    refine (markIntSS_any _ d2 _ _ _ _ R11_19.out (by omega) (by omega) (by omega) (by omega)).mono ?_
    rintro e w20 ⟨rfl, hr20, ht20⟩
    have hs20 := ht20.size
    have hbw20 := hbw19.trans ((ht20.below (by omega)).mono (by omega))
    clear hbw19
    have R6_0_20 := Lib.hid (ISSx.turned R6_0_19.out ht20 (by omega) (by omega)); clear R6_0_19
    have R7_20 := Lib.hid (ProX.turned R7_19.out ht20 (by omega) (by omega)); clear R7_19
    have R9_20 := Lib.hid (NetX.turned R9_19.out ht20 (by omega) (by omega)); clear R9_19
    have R12_0_20 := Lib.hid (ISSx.turned R12_0_19.out ht20 (by omega) (by omega)); clear R12_0_19
    have BX1_20 : Box4 w20 w.heap.size 24 (.int .i64 d0.L) (.int .i64 d0.D) (.slice A0 d0.nodes.length c0) (.slice A0' d0.edges.length c0') := (ht20.block _ (by omega) (by omega)).trans BX1_19; clear BX1_19
    have BX2_20 : Box3 w20 (w.heap.size + 1) 28 (.slice A1 d1.ends.length c1) (.slice A1' d1.ids.length c1') (.slice A1'' d1.inputs.length c1'') := (ht20.block _ (by omega) (by omega)).trans BX2_19; clear BX2_19
    have BX8_20 : Box4 w20 w7.heap.size 34 (.int .i64 d0.L) (.int .i64 d0.D) (.slice Ar7 d0.nodes.length cr7) (.slice Ar7' d0.edges.length cr7') := (ht20.block _ (by omega) (by omega)).trans BX8_19; clear BX8_19
    have BX10_20 : Box3 w20 w9.heap.size 38 (.slice Ar9 d1.ends.length cr9) (.slice Ar9' d1.ids.length cr9') (.slice Ar9'' d1.inputs.length cr9'') := (ht20.block _ (by omega) (by omega)).trans BX10_19; clear BX10_19
    clear R11_19
    have R11_20 := Lib.hid hr20; clear hr20
    obtain ⟨kc0_0, kc0_1, kc0_2, kc0_3⟩ := BX1_20.cells
    obtain ⟨kc1_0, kc1_1, kc1_2⟩ := BX2_20.cells
    obtain ⟨kc2_0, kc2_1, kc2_2, kc2_3⟩ := BX8_20.cells
    obtain ⟨kc3_0, kc3_1, kc3_2⟩ := BX10_20.cells
    go_wp2_with fail
    clear kc0_0 kc0_1 kc0_2 kc0_3 kc1_0 kc1_1 kc1_2 kc2_0 kc2_1 kc2_2 kc2_3 kc3_0 kc3_1 kc3_2
    refine (eqIntSS_same _ _ (olL d0 d1 d2) _ _ _ _ _ R12_0_20.out.ss R6_0_20.out.ss (by omega) (by omega)).mono ?_
    rintro e w21 ⟨rfl, hb21⟩
    have hs21 := hb21.size
    have hbw21 := hbw20.trans (hb21.mono (by omega))
    clear hbw20
    have R6_0_21 := Lib.hid (ISSx.below R6_0_20.out hb21 (by omega)); clear R6_0_20
    have R7_21 := Lib.hid (ProX.below R7_20.out hb21 (by omega)); clear R7_20
    have R9_21 := Lib.hid (NetX.below R9_20.out hb21 (by omega)); clear R9_20
    have R11_21 := Lib.hid (ISSx.below R11_20.out hb21 (by omega)); clear R11_20
    have R12_0_21 := Lib.hid (ISSx.below R12_0_20.out hb21 (by omega)); clear R12_0_20
    have BX1_21 := BX1_20.below hb21 (by omega); clear BX1_20
    have BX2_21 := BX2_20.below hb21 (by omega); clear BX2_20
    have BX8_21 := BX8_20.below hb21 (by omega); clear BX8_20
    have BX10_21 := BX10_20.below hb21 (by omega); clear BX10_20
    obtain ⟨kc0_0, kc0_1, kc0_2, kc0_3⟩ := BX1_21.cells
    obtain ⟨kc1_0, kc1_1, kc1_2⟩ := BX2_21.cells
    obtain ⟨kc2_0, kc2_1, kc2_2, kc2_3⟩ := BX8_21.cells
    obtain ⟨kc3_0, kc3_1, kc3_2⟩ := BX10_21.cells
    go_wp2_with fail
    clear kc0_0 kc0_1 kc0_2 kc0_3 kc1_0 kc1_1 kc1_2 kc2_0 kc2_1 kc2_2 kc2_3 kc3_0 kc3_1 kc3_2
    refine (markIntSS_any _ (olL d0 d1 d2) _ _ _ _ R12_0_21.out (by omega) (by omega) (by omega) (by omega)).mono ?_
    rintro e w22 ⟨rfl, hr22, ht22⟩
    have hs22 := ht22.size
    have hbw22 := hbw21.trans ((ht22.below (by omega)).mono (by omega))
    clear hbw21
    have R6_0_22 := Lib.hid (ISSx.turned R6_0_21.out ht22 (by omega) (by omega)); clear R6_0_21
    have R7_22 := Lib.hid (ProX.turned R7_21.out ht22 (by omega) (by omega)); clear R7_21
    have R9_22 := Lib.hid (NetX.turned R9_21.out ht22 (by omega) (by omega)); clear R9_21
    have R11_22 := Lib.hid (ISSx.turned R11_21.out ht22 (by omega) (by omega)); clear R11_21
    have BX1_22 : Box4 w22 w.heap.size 24 (.int .i64 d0.L) (.int .i64 d0.D) (.slice A0 d0.nodes.length c0) (.slice A0' d0.edges.length c0') := (ht22.block _ (by omega) (by omega)).trans BX1_21; clear BX1_21
    have BX2_22 : Box3 w22 (w.heap.size + 1) 28 (.slice A1 d1.ends.length c1) (.slice A1' d1.ids.length c1') (.slice A1'' d1.inputs.length c1'') := (ht22.block _ (by omega) (by omega)).trans BX2_21; clear BX2_21
    have BX8_22 : Box4 w22 w7.heap.size 34 (.int .i64 d0.L) (.int .i64 d0.D) (.slice Ar7 d0.nodes.length cr7) (.slice Ar7' d0.edges.length cr7') := (ht22.block _ (by omega) (by omega)).trans BX8_21; clear BX8_21
    have BX10_22 : Box3 w22 w9.heap.size 38 (.slice Ar9 d1.ends.length cr9) (.slice Ar9' d1.ids.length cr9') (.slice Ar9'' d1.inputs.length cr9'') := (ht22.block _ (by omega) (by omega)).trans BX10_21; clear BX10_21
    clear R12_0_21
    have R12_0_22 := Lib.hid hr22; clear hr22
    obtain ⟨kc0_0, kc0_1, kc0_2, kc0_3⟩ := BX1_22.cells
    obtain ⟨kc1_0, kc1_1, kc1_2⟩ := BX2_22.cells
    obtain ⟨kc2_0, kc2_1, kc2_2, kc2_3⟩ := BX8_22.cells
    obtain ⟨kc3_0, kc3_1, kc3_2⟩ := BX10_22.cells
    go_wp2_with fail
    clear kc0_0 kc0_1 kc0_2 kc0_3 kc1_0 kc1_1 kc1_2 kc2_0 kc2_1 kc2_2 kc2_3 kc3_0 kc3_1 kc3_2
    refine (heldIntSS_yes _ (olL d0 d1 d2) _ _ _ _ R12_0_22.out.ss (by omega) (by omega) (by omega) (by omega)).mono ?_
    rintro e w23 ⟨rfl, hb23⟩
    have hs23 := hb23.size
    have hbw23 := hbw22.trans (hb23.mono (by omega))
    clear hbw22
    have R6_0_23 := Lib.hid (ISSx.below R6_0_22.out hb23 (by omega)); clear R6_0_22
    have R7_23 := Lib.hid (ProX.below R7_22.out hb23 (by omega)); clear R7_22
    have R9_23 := Lib.hid (NetX.below R9_22.out hb23 (by omega)); clear R9_22
    have R11_23 := Lib.hid (ISSx.below R11_22.out hb23 (by omega)); clear R11_22
    have R12_0_23 := Lib.hid (ISSx.below R12_0_22.out hb23 (by omega)); clear R12_0_22
    have BX1_23 := BX1_22.below hb23 (by omega); clear BX1_22
    have BX2_23 := BX2_22.below hb23 (by omega); clear BX2_22
    have BX8_23 := BX8_22.below hb23 (by omega); clear BX8_22
    have BX10_23 := BX10_22.below hb23 (by omega); clear BX10_22
    obtain ⟨kc0_0, kc0_1, kc0_2, kc0_3⟩ := BX1_23.cells
    obtain ⟨kc1_0, kc1_1, kc1_2⟩ := BX2_23.cells
    obtain ⟨kc2_0, kc2_1, kc2_2, kc2_3⟩ := BX8_23.cells
    obtain ⟨kc3_0, kc3_1, kc3_2⟩ := BX10_23.cells
    go_wp2_with fail
    have hq24 : w23.heap.size ≤ w23.heap.size := Nat.le_refl _
    go_region_held3 (fun w' => w'.cell? ⟨w.heap.size, 0, none⟩ = some (.int .i64 d0.L) ∧ w'.cell? ⟨w.heap.size, 1, none⟩ = some (.int .i64 d0.D) ∧ w'.cell? ⟨w.heap.size, 2, none⟩ = some (.slice A0 d0.nodes.length c0) ∧ w'.cell? ⟨w.heap.size, 3, none⟩ = some (.slice A0' d0.edges.length c0') ∧ w'.cell? ⟨(w.heap.size + 1), 0, none⟩ = some (.slice A1 d1.ends.length c1) ∧ w'.cell? ⟨(w.heap.size + 1), 1, none⟩ = some (.slice A1' d1.ids.length c1') ∧ w'.cell? ⟨(w.heap.size + 1), 2, none⟩ = some (.slice A1'' d1.inputs.length c1'') ∧ w'.cell? ⟨w7.heap.size, 0, none⟩ = some (.int .i64 d0.L) ∧ w'.cell? ⟨w7.heap.size, 1, none⟩ = some (.int .i64 d0.D) ∧ w'.cell? ⟨w7.heap.size, 2, none⟩ = some (.slice Ar7 d0.nodes.length cr7) ∧ w'.cell? ⟨w7.heap.size, 3, none⟩ = some (.slice Ar7' d0.edges.length cr7') ∧ w'.cell? ⟨w9.heap.size, 0, none⟩ = some (.slice Ar9 d1.ends.length cr9) ∧ w'.cell? ⟨w9.heap.size, 1, none⟩ = some (.slice Ar9' d1.ids.length cr9') ∧ w'.cell? ⟨w9.heap.size, 2, none⟩ = some (.slice Ar9'' d1.inputs.length cr9''))
      (first | exact ⟨kf_24_0, kf_24_1, kf_24_2, kf_24_3, kf_24_4, kf_24_5, kf_24_6, kf_24_7, kf_24_8, kf_24_9, kf_24_10, kf_24_11, kf_24_12, kf_24_13⟩ | exact ⟨k2_24_0, k2_24_1, k2_24_2, k2_24_3, k2_24_4, k2_24_5, k2_24_6, k2_24_7, k2_24_8, k2_24_9, k2_24_10, k2_24_11, k2_24_12, k2_24_13⟩ | exact ⟨k1_24_0, k1_24_1, k1_24_2, k1_24_3, k1_24_4, k1_24_5, k1_24_6, k1_24_7, k1_24_8, k1_24_9, k1_24_10, k1_24_11, k1_24_12, k1_24_13⟩ | exact ⟨k0_24_0, k0_24_1, k0_24_2, k0_24_3, k0_24_4, k0_24_5, k0_24_6, k0_24_7, k0_24_8, k0_24_9, k0_24_10, k0_24_11, k0_24_12, k0_24_13⟩ | exact ⟨kc0_0, kc0_1, kc0_2, kc0_3, kc1_0, kc1_1, kc1_2, kc2_0, kc2_1, kc2_2, kc2_3, kc3_0, kc3_1, kc3_2⟩)
      (first | (go_at_call 11; refine (OrientedLabeling_impl _ d0 _ _ _ d1 _ _ _ d2 _ _ _ R24_0_2.out.pro (by omega) R24_1_2.out.net (by omega) R24_2_2.out.ss (by omega) (by omega) (by omega) (by omega) I0.out I1.out I2.out).mono ?_; rintro e w24 ⟨r24_0, rfl, hr24_0, hbr24⟩; have hbz24 : Below w23.heap.size w23 w24 := hb24s2.trans (hbr24.mono hb24s2.size); have hsf24 := hbr24.size; clear hbr24; have R24_0 := Lib.hid hr24_0; obtain ⟨Ar24_0, cr24_0, rfl⟩ := hr24_0.ss.shape; clear hr24_0; have kf_24_0 := (hbz24.cell (p := ⟨w.heap.size, 0, none⟩) (by show w.heap.size < w23.heap.size; omega)).trans kc0_0; have kf_24_1 := (hbz24.cell (p := ⟨w.heap.size, 1, none⟩) (by show w.heap.size < w23.heap.size; omega)).trans kc0_1; have kf_24_2 := (hbz24.cell (p := ⟨w.heap.size, 2, none⟩) (by show w.heap.size < w23.heap.size; omega)).trans kc0_2; have kf_24_3 := (hbz24.cell (p := ⟨w.heap.size, 3, none⟩) (by show w.heap.size < w23.heap.size; omega)).trans kc0_3; have kf_24_4 := (hbz24.cell (p := ⟨(w.heap.size + 1), 0, none⟩) (by show (w.heap.size + 1) < w23.heap.size; omega)).trans kc1_0; have kf_24_5 := (hbz24.cell (p := ⟨(w.heap.size + 1), 1, none⟩) (by show (w.heap.size + 1) < w23.heap.size; omega)).trans kc1_1; have kf_24_6 := (hbz24.cell (p := ⟨(w.heap.size + 1), 2, none⟩) (by show (w.heap.size + 1) < w23.heap.size; omega)).trans kc1_2; have kf_24_7 := (hbz24.cell (p := ⟨w7.heap.size, 0, none⟩) (by show w7.heap.size < w23.heap.size; omega)).trans kc2_0; have kf_24_8 := (hbz24.cell (p := ⟨w7.heap.size, 1, none⟩) (by show w7.heap.size < w23.heap.size; omega)).trans kc2_1; have kf_24_9 := (hbz24.cell (p := ⟨w7.heap.size, 2, none⟩) (by show w7.heap.size < w23.heap.size; omega)).trans kc2_2; have kf_24_10 := (hbz24.cell (p := ⟨w7.heap.size, 3, none⟩) (by show w7.heap.size < w23.heap.size; omega)).trans kc2_3; have kf_24_11 := (hbz24.cell (p := ⟨w9.heap.size, 0, none⟩) (by show w9.heap.size < w23.heap.size; omega)).trans kc3_0; have kf_24_12 := (hbz24.cell (p := ⟨w9.heap.size, 1, none⟩) (by show w9.heap.size < w23.heap.size; omega)).trans kc3_1; have kf_24_13 := (hbz24.cell (p := ⟨w9.heap.size, 2, none⟩) (by show w9.heap.size < w23.heap.size; omega)).trans kc3_2) | (go_at_call 10; refine (toIntSS_any _ d2 _ _ _ (ISS.below H2.out (hbw23.trans (hb24s1.mono (by omega))) (Nat.le_refl _)) (by have := hb24s1.size; omega) (by omega)).mono ?_; rintro e w24s2 ⟨ra24_2, rfl, hra24, hbe24⟩; have hb24s2 : Below w23.heap.size w23 w24s2 := hb24s1.trans (hbe24.mono hb24s1.size); have hse24_2 := hbe24.size; have R24_0_2 := Lib.hid (ProX.below R24_0_1.out hbe24 (by omega)); clear R24_0_1; have R24_1_2 := Lib.hid (NetX.below R24_1_1.out hbe24 (by omega)); clear R24_1_1; clear hbe24; have R24_2_2 := Lib.hid hra24; obtain ⟨Ara24_2, cra24_2, rfl⟩ := hra24.ss.shape; clear hra24; have hss24_2 := hb24s2.size; have k2_24_0 := (hb24s2.cell (p := ⟨w.heap.size, 0, none⟩) (by show w.heap.size < w23.heap.size; omega)).trans kc0_0; have k2_24_1 := (hb24s2.cell (p := ⟨w.heap.size, 1, none⟩) (by show w.heap.size < w23.heap.size; omega)).trans kc0_1; have k2_24_2 := (hb24s2.cell (p := ⟨w.heap.size, 2, none⟩) (by show w.heap.size < w23.heap.size; omega)).trans kc0_2; have k2_24_3 := (hb24s2.cell (p := ⟨w.heap.size, 3, none⟩) (by show w.heap.size < w23.heap.size; omega)).trans kc0_3; have k2_24_4 := (hb24s2.cell (p := ⟨(w.heap.size + 1), 0, none⟩) (by show (w.heap.size + 1) < w23.heap.size; omega)).trans kc1_0; have k2_24_5 := (hb24s2.cell (p := ⟨(w.heap.size + 1), 1, none⟩) (by show (w.heap.size + 1) < w23.heap.size; omega)).trans kc1_1; have k2_24_6 := (hb24s2.cell (p := ⟨(w.heap.size + 1), 2, none⟩) (by show (w.heap.size + 1) < w23.heap.size; omega)).trans kc1_2; have k2_24_7 := (hb24s2.cell (p := ⟨w7.heap.size, 0, none⟩) (by show w7.heap.size < w23.heap.size; omega)).trans kc2_0; have k2_24_8 := (hb24s2.cell (p := ⟨w7.heap.size, 1, none⟩) (by show w7.heap.size < w23.heap.size; omega)).trans kc2_1; have k2_24_9 := (hb24s2.cell (p := ⟨w7.heap.size, 2, none⟩) (by show w7.heap.size < w23.heap.size; omega)).trans kc2_2; have k2_24_10 := (hb24s2.cell (p := ⟨w7.heap.size, 3, none⟩) (by show w7.heap.size < w23.heap.size; omega)).trans kc2_3; have k2_24_11 := (hb24s2.cell (p := ⟨w9.heap.size, 0, none⟩) (by show w9.heap.size < w23.heap.size; omega)).trans kc3_0; have k2_24_12 := (hb24s2.cell (p := ⟨w9.heap.size, 1, none⟩) (by show w9.heap.size < w23.heap.size; omega)).trans kc3_1; have k2_24_13 := (hb24s2.cell (p := ⟨w9.heap.size, 2, none⟩) (by show w9.heap.size < w23.heap.size; omega)).trans kc3_2) | (go_at_call 9; refine (toNetwork_any _ d1 _ _ _ (Net.below H1.out (hbw23.trans (hb24s0.mono (by omega))) (Nat.le_refl _)) (by have := hb24s0.size; omega) (by omega)).mono ?_; rintro e w24s1 ⟨ra24_1, rfl, hra24, hbe24⟩; have hb24s1 : Below w23.heap.size w23 w24s1 := hb24s0.trans (hbe24.mono hb24s0.size); have hse24_1 := hbe24.size; have R24_0_1 := Lib.hid (ProX.below R24_0_0.out hbe24 (by omega)); clear R24_0_0; clear hbe24; have R24_1_1 := Lib.hid hra24; obtain ⟨Ara24_1, cra24_1, Ara24_1', cra24_1', Ara24_1'', cra24_1'', rfl, _⟩ := hra24.net.parts; clear hra24; have hss24_1 := hb24s1.size; have k1_24_0 := (hb24s1.cell (p := ⟨w.heap.size, 0, none⟩) (by show w.heap.size < w23.heap.size; omega)).trans kc0_0; have k1_24_1 := (hb24s1.cell (p := ⟨w.heap.size, 1, none⟩) (by show w.heap.size < w23.heap.size; omega)).trans kc0_1; have k1_24_2 := (hb24s1.cell (p := ⟨w.heap.size, 2, none⟩) (by show w.heap.size < w23.heap.size; omega)).trans kc0_2; have k1_24_3 := (hb24s1.cell (p := ⟨w.heap.size, 3, none⟩) (by show w.heap.size < w23.heap.size; omega)).trans kc0_3; have k1_24_4 := (hb24s1.cell (p := ⟨(w.heap.size + 1), 0, none⟩) (by show (w.heap.size + 1) < w23.heap.size; omega)).trans kc1_0; have k1_24_5 := (hb24s1.cell (p := ⟨(w.heap.size + 1), 1, none⟩) (by show (w.heap.size + 1) < w23.heap.size; omega)).trans kc1_1; have k1_24_6 := (hb24s1.cell (p := ⟨(w.heap.size + 1), 2, none⟩) (by show (w.heap.size + 1) < w23.heap.size; omega)).trans kc1_2; have k1_24_7 := (hb24s1.cell (p := ⟨w7.heap.size, 0, none⟩) (by show w7.heap.size < w23.heap.size; omega)).trans kc2_0; have k1_24_8 := (hb24s1.cell (p := ⟨w7.heap.size, 1, none⟩) (by show w7.heap.size < w23.heap.size; omega)).trans kc2_1; have k1_24_9 := (hb24s1.cell (p := ⟨w7.heap.size, 2, none⟩) (by show w7.heap.size < w23.heap.size; omega)).trans kc2_2; have k1_24_10 := (hb24s1.cell (p := ⟨w7.heap.size, 3, none⟩) (by show w7.heap.size < w23.heap.size; omega)).trans kc2_3; have k1_24_11 := (hb24s1.cell (p := ⟨w9.heap.size, 0, none⟩) (by show w9.heap.size < w23.heap.size; omega)).trans kc3_0; have k1_24_12 := (hb24s1.cell (p := ⟨w9.heap.size, 1, none⟩) (by show w9.heap.size < w23.heap.size; omega)).trans kc3_1; have k1_24_13 := (hb24s1.cell (p := ⟨w9.heap.size, 2, none⟩) (by show w9.heap.size < w23.heap.size; omega)).trans kc3_2) | (go_at_call 8; refine (toProblem_any _ d0 _ _ _ (Pro.below H0.out hbw23.drew (Nat.le_refl _)) (by show _ ≤ w23.heap.size; omega) (by omega)).mono ?_; rintro e w24s0 ⟨ra24_0, rfl, hra24, hbe24⟩; have hb24s0 : Below w23.heap.size w23 w24s0 := (Below.refl _ _).drew.trans hbe24; clear hbe24; have R24_0_0 := Lib.hid hra24; obtain ⟨Ara24_0, cra24_0, Ara24_0', cra24_0', rfl, _⟩ := hra24.pro.parts; clear hra24; have hss24_0 := hb24s0.size; have k0_24_0 := (hb24s0.cell (p := ⟨w.heap.size, 0, none⟩) (by show w.heap.size < w23.heap.size; omega)).trans kc0_0; have k0_24_1 := (hb24s0.cell (p := ⟨w.heap.size, 1, none⟩) (by show w.heap.size < w23.heap.size; omega)).trans kc0_1; have k0_24_2 := (hb24s0.cell (p := ⟨w.heap.size, 2, none⟩) (by show w.heap.size < w23.heap.size; omega)).trans kc0_2; have k0_24_3 := (hb24s0.cell (p := ⟨w.heap.size, 3, none⟩) (by show w.heap.size < w23.heap.size; omega)).trans kc0_3; have k0_24_4 := (hb24s0.cell (p := ⟨(w.heap.size + 1), 0, none⟩) (by show (w.heap.size + 1) < w23.heap.size; omega)).trans kc1_0; have k0_24_5 := (hb24s0.cell (p := ⟨(w.heap.size + 1), 1, none⟩) (by show (w.heap.size + 1) < w23.heap.size; omega)).trans kc1_1; have k0_24_6 := (hb24s0.cell (p := ⟨(w.heap.size + 1), 2, none⟩) (by show (w.heap.size + 1) < w23.heap.size; omega)).trans kc1_2; have k0_24_7 := (hb24s0.cell (p := ⟨w7.heap.size, 0, none⟩) (by show w7.heap.size < w23.heap.size; omega)).trans kc2_0; have k0_24_8 := (hb24s0.cell (p := ⟨w7.heap.size, 1, none⟩) (by show w7.heap.size < w23.heap.size; omega)).trans kc2_1; have k0_24_9 := (hb24s0.cell (p := ⟨w7.heap.size, 2, none⟩) (by show w7.heap.size < w23.heap.size; omega)).trans kc2_2; have k0_24_10 := (hb24s0.cell (p := ⟨w7.heap.size, 3, none⟩) (by show w7.heap.size < w23.heap.size; omega)).trans kc2_3; have k0_24_11 := (hb24s0.cell (p := ⟨w9.heap.size, 0, none⟩) (by show w9.heap.size < w23.heap.size; omega)).trans kc3_0; have k0_24_12 := (hb24s0.cell (p := ⟨w9.heap.size, 1, none⟩) (by show w9.heap.size < w23.heap.size; omega)).trans kc3_1; have k0_24_13 := (hb24s0.cell (p := ⟨w9.heap.size, 2, none⟩) (by show w9.heap.size < w23.heap.size; omega)).trans kc3_2))
    clear kc0_0 kc0_1 kc0_2 kc0_3 kc1_0 kc1_1 kc1_2 kc2_0 kc2_1 kc2_2 kc2_3 kc3_0 kc3_1 kc3_2 hq24 k0_24_0 k0_24_1 k0_24_2 k0_24_3 k0_24_4 k0_24_5 k0_24_6 k0_24_7 k0_24_8 k0_24_9 k0_24_10 k0_24_11 k0_24_12 k0_24_13 k1_24_0 k1_24_1 k1_24_2 k1_24_3 k1_24_4 k1_24_5 k1_24_6 k1_24_7 k1_24_8 k1_24_9 k1_24_10 k1_24_11 k1_24_12 k1_24_13 k2_24_0 k2_24_1 k2_24_2 k2_24_3 k2_24_4 k2_24_5 k2_24_6 k2_24_7 k2_24_8 k2_24_9 k2_24_10 k2_24_11 k2_24_12 k2_24_13 kf_24_0 kf_24_1 kf_24_2 kf_24_3 kf_24_4 kf_24_5 kf_24_6 kf_24_7 kf_24_8 kf_24_9 kf_24_10 kf_24_11 kf_24_12 kf_24_13 R24_0_2 R24_1_2 R24_2_2 hb24s0 hb24s1 hb24s2
    have hs24 := hbz24.size
    have hbw24 := hbw23.trans (hbz24.mono (by omega))
    clear hbw23
    have R6_0_24 := Lib.hid (ISSx.below R6_0_23.out hbz24 (by omega)); clear R6_0_23
    have R7_24 := Lib.hid (ProX.below R7_23.out hbz24 (by omega)); clear R7_23
    have R9_24 := Lib.hid (NetX.below R9_23.out hbz24 (by omega)); clear R9_23
    have R11_24 := Lib.hid (ISSx.below R11_23.out hbz24 (by omega)); clear R11_23
    have R12_0_24 := Lib.hid (ISSx.below R12_0_23.out hbz24 (by omega)); clear R12_0_23
    have BX1_24 := BX1_23.below hbz24 (by omega); clear BX1_23
    have BX2_24 := BX2_23.below hbz24 (by omega); clear BX2_23
    have BX8_24 := BX8_23.below hbz24 (by omega); clear BX8_23
    have BX10_24 := BX10_23.below hbz24 (by omega); clear BX10_23
    obtain ⟨kc0_0, kc0_1, kc0_2, kc0_3⟩ := BX1_24.cells
    obtain ⟨kc1_0, kc1_1, kc1_2⟩ := BX2_24.cells
    obtain ⟨kc2_0, kc2_1, kc2_2, kc2_3⟩ := BX8_24.cells
    obtain ⟨kc3_0, kc3_1, kc3_2⟩ := BX10_24.cells
    go_wp2_with fail
    clear kc0_0 kc0_1 kc0_2 kc0_3 kc1_0 kc1_1 kc1_2 kc2_0 kc2_1 kc2_2 kc2_3 kc3_0 kc3_1 kc3_2
    refine (eqIntSS_same _ _ (olL d0 d1 d2) _ _ _ _ _ R24_0.out.ss R6_0_24.out.ss (by omega) (by omega)).mono ?_
    rintro e w25 ⟨rfl, hb25⟩
    have hs25 := hb25.size
    have hbw25 := hbw24.trans (hb25.mono (by omega))
    clear hbw24
    have R6_0_25 := Lib.hid (ISSx.below R6_0_24.out hb25 (by omega)); clear R6_0_24
    have R7_25 := Lib.hid (ProX.below R7_24.out hb25 (by omega)); clear R7_24
    have R9_25 := Lib.hid (NetX.below R9_24.out hb25 (by omega)); clear R9_24
    have R11_25 := Lib.hid (ISSx.below R11_24.out hb25 (by omega)); clear R11_24
    have R12_0_25 := Lib.hid (ISSx.below R12_0_24.out hb25 (by omega)); clear R12_0_24
    have R24_0_25 := Lib.hid (ISSx.below R24_0.out hb25 (by omega)); clear R24_0
    have BX1_25 := BX1_24.below hb25 (by omega); clear BX1_24
    have BX2_25 := BX2_24.below hb25 (by omega); clear BX2_24
    have BX8_25 := BX8_24.below hb25 (by omega); clear BX8_24
    have BX10_25 := BX10_24.below hb25 (by omega); clear BX10_24
    obtain ⟨kc0_0, kc0_1, kc0_2, kc0_3⟩ := BX1_25.cells
    obtain ⟨kc1_0, kc1_1, kc1_2⟩ := BX2_25.cells
    obtain ⟨kc2_0, kc2_1, kc2_2, kc2_3⟩ := BX8_25.cells
    obtain ⟨kc3_0, kc3_1, kc3_2⟩ := BX10_25.cells
    go_wp2_with fail
    clear kc0_0 kc0_1 kc0_2 kc0_3 kc1_0 kc1_1 kc1_2 kc2_0 kc2_1 kc2_2 kc2_3 kc3_0 kc3_1 kc3_2
    refine (heldIntSS_yes _ (olL d0 d1 d2) _ _ _ _ R12_0_25.out.ss (by omega) (by omega) (by omega) (by omega)).mono ?_
    rintro e w26 ⟨rfl, hb26⟩
    have hs26 := hb26.size
    have hbw26 := hbw25.trans (hb26.mono (by omega))
    clear hbw25
    have R6_0_26 := Lib.hid (ISSx.below R6_0_25.out hb26 (by omega)); clear R6_0_25
    have R7_26 := Lib.hid (ProX.below R7_25.out hb26 (by omega)); clear R7_25
    have R9_26 := Lib.hid (NetX.below R9_25.out hb26 (by omega)); clear R9_25
    have R11_26 := Lib.hid (ISSx.below R11_25.out hb26 (by omega)); clear R11_25
    have R12_0_26 := Lib.hid (ISSx.below R12_0_25.out hb26 (by omega)); clear R12_0_25
    have R24_0_26 := Lib.hid (ISSx.below R24_0_25.out hb26 (by omega)); clear R24_0_25
    have BX1_26 := BX1_25.below hb26 (by omega); clear BX1_25
    have BX2_26 := BX2_25.below hb26 (by omega); clear BX2_25
    have BX8_26 := BX8_25.below hb26 (by omega); clear BX8_25
    have BX10_26 := BX10_25.below hb26 (by omega); clear BX10_25
    go_wp2_with fail
    go_ret
    exact ⟨rfl, hbw26⟩
end Go.Proofs.YtkcbocoimbhhaaaGreat.fnExactOrientedLabeling
