/-
  Several texts in one: Rn4. No condition on any program.
-/
import Derived.Test.YtmdlginjblnfoaaGreatCzO

/- Contracts: neOwn, neRenumber (reference): the walks. -/
namespace Go.Proofs.YtmdlginjblnfoaaGreat
open Go.ChangeShapes Go.WideShapes Go.ChangeAt Go.RowKit
set_option linter.unusedVariables false

set_option maxHeartbeats 8000000 in
set_option maxRecDepth 100000 in
theorem neOwn_any (v1 : Value) (N : NetD) (lo1 hi1 : Nat) (w : World) (h1 : Net w lo1 hi1 v1 N) (hh1 : hi1 ≤ w.heap.size) (hg : N.good = true) :
    Calls Tryz.prog 60 #[v1] w fun e w' => ∃ (d1 d2 d3 i2 g c8 c9 cE : Nat) (A8 A9 : Option Addr), e = .returned (.agg #[.slice (some ⟨g, 0, none⟩) N.ends.length cE, .slice A8 N.ids.length c8, .slice A9 N.inputs.length c9]) ∧ N.ends.length ≤ cE ∧ cE ≤ maxLen ∧ RN w' w.heap.size d1 d2 d3 i2 w'.heap.size g (.slice (some ⟨g, 0, none⟩) N.ends.length cE) (.slice A8 N.ids.length c8) (.slice A9 N.inputs.length c9) N ∧ Below w.heap.size w w' := by
  obtain ⟨n1, n40⟩ := good_n hg
  have HG := Lib.hid hg; clear hg
  have HNN := Lib.hid (good_insl HG.out); have HNI := Lib.hid (good_idsl HG.out)
  have F1 := Lib.hid h1
  obtain ⟨A1, c1, A1', c1', A1'', c1'', rfl, hc1, hd1, _⟩ := h1.parts
  obtain ⟨b1, o1, _, _, rfl, _⟩ := Net.rowAt F1.out (u := 0) (by omega)
  clear h1
  obtain ⟨WA, HWA⟩ : ∃ W, Hid (W = ((w.alloc (.cells #[.slice (some ⟨b1, o1, none⟩) N.ends.length c1, .slice A1' N.ids.length c1', .slice A1'' N.inputs.length c1''] 32)).alloc (.cells #[.slice none 0 0, .slice none 0 0, .slice none 0 0] 32))) := ⟨_, Lib.hid rfl⟩
  have hbA : Below w.heap.size w WA := by rw [HWA.out]; exact (((Below.refl _ _).alloc (Nat.le_refl _) _).alloc (by simp; try omega) _)
  have hsA : w.heap.size + 2 ≤ WA.heap.size := by rw [HWA.out]; simp; try omega
  have bx1 : BoxN WA (w.heap.size) #[.slice (some ⟨b1, o1, none⟩) N.ends.length c1, .slice A1' N.ids.length c1', .slice A1'' N.inputs.length c1''] 32 := by rw [HWA.out]; exact ((BoxN.new' _ _ _ (by simp)).still (grown_alloc _ _))
  have bxx0 : BoxN WA (w.heap.size + 1) #[.slice none 0 0, .slice none 0 0, .slice none 0 0] 32 := by rw [HWA.out]; exact (BoxN.new' _ _ _ (by simp))
  have G1 := Lib.hid (Net.below F1.out hbA hh1); clear F1
  go_enter Tryz.func60, Tryz.ntmps60
  go_upto_region 1 with (fail)
  rw [← HWA.out]; clear HWA
  go_wp2_with fail
  refine region_cut [6, 7, 8, 9, 10, 11, 12, 3] (fun vs W => ∃ (gO d1 d2 d3 i2 c8 c9 : Nat) (A8 A9 : Option Addr), vs = [.pointer (some ⟨w.heap.size, 1, none⟩), .slice A1' N.ids.length c1', .slice A8 N.ids.length c8, .pointer (some ⟨w.heap.size, 2, none⟩), .slice A1'' N.inputs.length c1'', .slice A9 N.inputs.length c9, .agg #[.slice none 0 0, .slice A8 N.ids.length c8, .slice A9 N.inputs.length c9], .pointer (some ⟨gO, 0, none⟩)] ∧ Hid (BoxN W gO #[.slice none 0 0, .slice A8 N.ids.length c8, .slice A9 N.inputs.length c9] 32) ∧ Hid (IntS W d1 d2 (.slice A8 N.ids.length c8) N.ids) ∧ Hid (IntS W d3 i2 (.slice A9 N.inputs.length c9) N.inputs) ∧ WA.heap.size ≤ d1 ∧ d1 ≤ d2 ∧ d2 ≤ d3 ∧ d3 ≤ i2 ∧ i2 ≤ W.heap.size ∧ WA.heap.size ≤ gO ∧ (gO < d1 ∨ d2 ≤ gO) ∧ (gO < d3 ∨ i2 ≤ gO) ∧ Hid (Turned WA.heap.size WA.heap.size WA W)) ?_ ?_
  case refine_1 =>
    refine wp_region_U (fun w' => w'.cell? ⟨w.heap.size, 0, none⟩ = some (.slice (some ⟨b1, o1, none⟩) N.ends.length c1) ∧ w'.cell? ⟨w.heap.size, 1, none⟩ = some (.slice A1' N.ids.length c1') ∧ w'.cell? ⟨w.heap.size, 2, none⟩ = some (.slice A1'' N.inputs.length c1'')) [] (by kernel_rfl) ?_
    refine nameU ?_
    intro W1 HW1
    have hg1 : WA.grownBy W1 none := by rw [HW1.out]; exact grown_drew _
    clear HW1
    have hs1 := hg1.size
    have HF1 := Lib.hid ((Turned.refl WA.heap.size WA.heap.size WA).still hg1)
    have hS2 : W1.cell? ⟨w.heap.size, 0, none⟩ = some (.slice (some ⟨b1, o1, none⟩) N.ends.length c1) ∧ W1.cell? ⟨w.heap.size, 1, none⟩ = some (.slice A1' N.ids.length c1') ∧ W1.cell? ⟨w.heap.size, 2, none⟩ = some (.slice A1'' N.inputs.length c1'') := ⟨(HF1.out.boxN bx1 (by omega)).cell 0 (by simp), (HF1.out.boxN bx1 (by omega)).cell 1 (by simp), (HF1.out.boxN bx1 (by omega)).cell 2 (by simp)⟩
    refine anyU_take (i := 0) (v := .pointer (some ⟨w.heap.size, 1, none⟩)) rfl (by kernel_rfl) (by kernel_rfl) (by kernel_rfl) (fun _ _ _ ⟨_, _, h, _⟩ => by cases h) ⟨by rfl, fun w' hS' => (by obtain ⟨s1, s2, s3⟩ := hS'; go_simp)⟩ hS2 ?_
    simp only [List.getElem_toArray, List.getElem_cons_zero, Act.put, List.setIfInBounds_toArray, List.set_cons_zero, List.set_cons_succ]
    refine anyU_take (i := 1) (v := .slice A1' N.ids.length c1') rfl (by kernel_rfl) (by kernel_rfl) (by kernel_rfl) (fun _ _ _ ⟨_, _, h, _⟩ => by cases h) ⟨by rfl, fun w' hS' => (by obtain ⟨s1, s2, s3⟩ := hS'; go_simp)⟩ hS2 ?_
    simp only [List.getElem_toArray, List.getElem_cons_succ, List.getElem_cons_zero, Act.put, List.setIfInBounds_toArray, List.set_cons_zero, List.set_cons_succ]
    refine anyU_take (i := 3) (v := .pointer (some ⟨w.heap.size, 2, none⟩)) rfl (by kernel_rfl) (by kernel_rfl) (by kernel_rfl) (fun _ _ _ ⟨_, _, h, _⟩ => by cases h) ⟨by rfl, fun w' hS' => (by obtain ⟨s1, s2, s3⟩ := hS'; go_simp)⟩ hS2 ?_
    simp only [List.getElem_toArray, List.getElem_cons_succ, List.getElem_cons_zero, Act.put, List.setIfInBounds_toArray, List.set_cons_zero, List.set_cons_succ]
    refine anyU_take (i := 4) (v := .slice A1'' N.inputs.length c1'') rfl (by kernel_rfl) (by kernel_rfl) (by kernel_rfl) (fun _ _ _ ⟨_, _, h, _⟩ => by cases h) ⟨by rfl, fun w' hS' => (by obtain ⟨s1, s2, s3⟩ := hS'; go_simp)⟩ hS2 ?_
    simp only [List.getElem_toArray, List.getElem_cons_succ, List.getElem_cons_zero, Act.put, List.setIfInBounds_toArray, List.set_cons_zero, List.set_cons_succ]
    refine anyU_ready (rs := [2, 7]) (by kernel_rfl) (by simp) ?_
    refine ReadyU.cons (i := 2) rfl (fun K hK => ?_) ?_
    case refine_1 =>
      simp only [List.getElem_toArray, List.getElem_cons_succ, List.getElem_cons_zero]
      refine ite_is (by rfl) ?_
      simp [go_sem]
      refine (l1OwnR _ N.ids _ _ _ (netIds (Net.turned G1.out HF1.out (by omega) (by omega))) (by omega) (by have := HNN.out; rcases HNI.out with h | h <;> omega)).mono ?_
      rintro e W3 ⟨r3, rfl, hr3, hb3⟩
      have hg3 := grown_below hb3; clear hb3
      have hs3 := hg3.size
      have HF3 := Lib.hid (HF1.out.still hg3); clear HF1
      obtain ⟨AVD, cVD, rfl, _, _⟩ := hr3.dims
      have VD3 := Lib.hid hr3; clear hr3
      have hS4 : W3.cell? ⟨w.heap.size, 0, none⟩ = some (.slice (some ⟨b1, o1, none⟩) N.ends.length c1) ∧ W3.cell? ⟨w.heap.size, 1, none⟩ = some (.slice A1' N.ids.length c1') ∧ W3.cell? ⟨w.heap.size, 2, none⟩ = some (.slice A1'' N.inputs.length c1'') := ⟨(HF3.out.boxN bx1 (by omega)).cell 0 (by simp), (HF3.out.boxN bx1 (by omega)).cell 1 (by simp), (HF3.out.boxN bx1 (by omega)).cell 2 (by simp)⟩
      refine hK.out _ _ ⟨fun _ => hS4, ?_⟩
      clear hK K hS2
      try simp only [List.getElem_toArray, List.getElem_cons_succ, List.getElem_cons_zero, Act.put, List.setIfInBounds_toArray, List.set_cons_zero, List.set_cons_succ]
      refine anyU_ready (rs := [5, 7]) (by kernel_rfl) (by simp) ?_
      refine ReadyU.cons (i := 5) rfl (fun K hK => ?_) ?_
      case refine_1 =>
        simp only [List.getElem_toArray, List.getElem_cons_succ, List.getElem_cons_zero]
        refine ite_is (by rfl) ?_
        simp [go_sem]
        refine (l1OwnR _ N.inputs _ _ _ (netIns (Net.turned G1.out HF3.out (by omega) (by omega))) (by omega) (by have := HNN.out; rcases HNI.out with h | h <;> omega)).mono ?_
        rintro e W5 ⟨r5, rfl, hr5, hb5⟩
        have hg5 := grown_below hb5; clear hb5
        have hs5 := hg5.size
        have HF5 := Lib.hid (HF3.out.still hg5); clear HF3
        have VD5 := Lib.hid (IntS.still VD3.out hg5 (by omega)); clear VD3
        obtain ⟨AVI, cVI, rfl, _, _⟩ := hr5.dims
        have VI5 := Lib.hid hr5; clear hr5
        have hS6 : W5.cell? ⟨w.heap.size, 0, none⟩ = some (.slice (some ⟨b1, o1, none⟩) N.ends.length c1) ∧ W5.cell? ⟨w.heap.size, 1, none⟩ = some (.slice A1' N.ids.length c1') ∧ W5.cell? ⟨w.heap.size, 2, none⟩ = some (.slice A1'' N.inputs.length c1'') := ⟨(HF5.out.boxN bx1 (by omega)).cell 0 (by simp), (HF5.out.boxN bx1 (by omega)).cell 1 (by simp), (HF5.out.boxN bx1 (by omega)).cell 2 (by simp)⟩
        refine hK.out _ _ ⟨fun _ => hS6, ?_⟩
        clear hK K hS4
        try simp only [List.getElem_toArray, List.getElem_cons_succ, List.getElem_cons_zero, Act.put, List.setIfInBounds_toArray, List.set_cons_zero, List.set_cons_succ]
        refine anyU_take (i := 6) (v := .agg #[.slice none 0 0, .slice AVD N.ids.length cVD, .slice AVI N.inputs.length cVI]) rfl (by kernel_rfl) (by kernel_rfl) (by kernel_rfl) (fun _ _ _ ⟨_, _, h, _⟩ => by cases h) ⟨by rfl, fun w' hS' => (by obtain ⟨s1, s2, s3⟩ := hS'; go_simp)⟩ hS6 ?_
        simp only [List.getElem_toArray, List.getElem_cons_succ, List.getElem_cons_zero, Act.put, List.setIfInBounds_toArray, List.set_cons_zero, List.set_cons_succ]
        refine anyU_ready (rs := [7]) (by kernel_rfl) (by simp) ?_
        refine ReadyU.cons (i := 7) rfl (fun K hK => ?_) ?_
        case refine_1 =>
          simp only [List.getElem_toArray, List.getElem_cons_succ, List.getElem_cons_zero]
          refine ite_is (by rfl) ?_
          simp [go_sem]
          refine nameA ?_
          intro W7 HW7
          have hg7 : W5.grownBy W7 none := by rw [HW7.out]; exact grown_alloc _ _
          have OUT7 := Lib.hid (show BoxN W7 W5.heap.size #[.slice none 0 0, .slice none 0 0, .slice none 0 0] 32 by rw [HW7.out]; exact BoxN.new _ _ _)
          have hz7 : W5.heap.size < W7.heap.size := OUT7.out.lt
          clear HW7
          have hs7 := hg7.size
          have HF7 := Lib.hid (HF5.out.still hg7); clear HF5
          have VD7 := Lib.hid (IntS.still VD5.out hg7 (by omega)); clear VD5
          have VI7 := Lib.hid (IntS.still VI5.out hg7 (by omega)); clear VI5
          have hS8 : W7.cell? ⟨w.heap.size, 0, none⟩ = some (.slice (some ⟨b1, o1, none⟩) N.ends.length c1) ∧ W7.cell? ⟨w.heap.size, 1, none⟩ = some (.slice A1' N.ids.length c1') ∧ W7.cell? ⟨w.heap.size, 2, none⟩ = some (.slice A1'' N.inputs.length c1'') := ⟨(HF7.out.boxN bx1 (by omega)).cell 0 (by simp), (HF7.out.boxN bx1 (by omega)).cell 1 (by simp), (HF7.out.boxN bx1 (by omega)).cell 2 (by simp)⟩
          refine hK.out _ _ ⟨fun _ => hS8, ?_⟩
          clear hK K hS6
          try simp only [List.getElem_toArray, List.getElem_cons_succ, List.getElem_cons_zero, Act.put, List.setIfInBounds_toArray, List.set_cons_zero, List.set_cons_succ]
          refine anyU_ready (rs := [8]) (by kernel_rfl) (by simp) ?_
          refine ReadyU.cons (i := 8) rfl (fun K hK => ?_) ?_
          case refine_1 =>
            simp only [List.getElem_toArray, List.getElem_cons_succ, List.getElem_cons_zero]
            refine ite_is (by rfl) ?_
            have kd0 : W7.cell? ⟨W5.heap.size, 0, none⟩ = some (.slice none 0 0) := OUT7.out.cell 0 (by simp)
            have kf0 := OUT7.out.frozen 0
            have kd1 : W7.cell? ⟨W5.heap.size, 1, none⟩ = some (.slice none 0 0) := OUT7.out.cell 1 (by simp)
            have kf1 := OUT7.out.frozen 1
            have kd2 : W7.cell? ⟨W5.heap.size, 2, none⟩ = some (.slice none 0 0) := OUT7.out.cell 2 (by simp)
            have kf2 := OUT7.out.frozen 2
            simp [go_sem, kd0, kf0, kd1, kf1, kd2, kf2]
            refine nameA ?_
            intro W9 HW9
            have hg9 : W7.grownBy W9 (some (W5.heap.size)) := by rw [HW9.out]; exact grownBy_setCell (p := ⟨W5.heap.size, 2, none⟩) (grownBy_setCell (p := ⟨W5.heap.size, 1, none⟩) (grown_set _ ⟨W5.heap.size, 0, none⟩ _) rfl _) rfl _
            have hs9 := hg9.size
            have HF9 := Lib.hid (HF7.out.grown hg9 (fun g e => .inr (by cases e; omega)))
            have VD9 := Lib.hid (IntS.far VD7.out hg9 (by omega) (fun g e => by cases e; omega)); clear VD7
            have VI9 := Lib.hid (IntS.far VI7.out hg9 (by omega) (fun g e => by cases e; omega)); clear VI7
            have OUT9 := Lib.hid (show BoxN W9 (W5.heap.size) #[.slice none 0 0, .slice AVD N.ids.length cVD, .slice AVI N.inputs.length cVI] 32 by rw [HW9.out]; exact ((OUT7.out.set 0 _).set 1 _).set 2 _)
            clear HW9 kd0 kf0 kd1 kf1 kd2 kf2 OUT7
            have hS10 : W9.cell? ⟨w.heap.size, 0, none⟩ = some (.slice (some ⟨b1, o1, none⟩) N.ends.length c1) ∧ W9.cell? ⟨w.heap.size, 1, none⟩ = some (.slice A1' N.ids.length c1') ∧ W9.cell? ⟨w.heap.size, 2, none⟩ = some (.slice A1'' N.inputs.length c1'') := ⟨(HF9.out.boxN bx1 (by omega)).cell 0 (by simp), (HF9.out.boxN bx1 (by omega)).cell 1 (by simp), (HF9.out.boxN bx1 (by omega)).cell 2 (by simp)⟩
            refine hK.out _ _ ⟨fun _ => hS10, ?_⟩
            clear hK K hS8
            try simp only [List.getElem_toArray, List.getElem_cons_succ, List.getElem_cons_zero, Act.put, List.setIfInBounds_toArray, List.set_cons_zero, List.set_cons_succ]
            clear hS10
            refine anyU_done (by kernel_rfl) ?_ _
            exact ⟨[.pointer (some ⟨w.heap.size, 1, none⟩), .slice A1' N.ids.length c1', .slice AVD N.ids.length cVD, .pointer (some ⟨w.heap.size, 2, none⟩), .slice A1'' N.inputs.length c1'', .slice AVI N.inputs.length cVI, .agg #[.slice none 0 0, .slice AVD N.ids.length cVD, .slice AVI N.inputs.length cVI], .pointer (some ⟨W5.heap.size, 0, none⟩)], ⟨_, W1.heap.size, W3.heap.size, W3.heap.size, W5.heap.size, _, _, _, _, rfl, OUT9, VD9, VI9, by omega, by omega, by omega, by omega, by omega, by omega, by omega, by omega, HF9⟩, rfl, by simp only [puts, Act.put, List.setIfInBounds_toArray, List.set_cons_zero, List.set_cons_succ]⟩
          exact ReadyU.nil
        exact ReadyU.nil
      refine ReadyU.cons (i := 7) rfl (fun K hK => ?_) ?_
      case refine_1 =>
        simp only [List.getElem_toArray, List.getElem_cons_succ, List.getElem_cons_zero]
        refine ite_is (by rfl) ?_
        simp [go_sem]
        refine nameA ?_
        intro W11 HW11
        have hg11 : W3.grownBy W11 none := by rw [HW11.out]; exact grown_alloc _ _
        have OUT11 := Lib.hid (show BoxN W11 W3.heap.size #[.slice none 0 0, .slice none 0 0, .slice none 0 0] 32 by rw [HW11.out]; exact BoxN.new _ _ _)
        have hz11 : W3.heap.size < W11.heap.size := OUT11.out.lt
        clear HW11
        have hs11 := hg11.size
        have HF11 := Lib.hid (HF3.out.still hg11); clear HF3
        have VD11 := Lib.hid (IntS.still VD3.out hg11 (by omega)); clear VD3
        have hS12 : W11.cell? ⟨w.heap.size, 0, none⟩ = some (.slice (some ⟨b1, o1, none⟩) N.ends.length c1) ∧ W11.cell? ⟨w.heap.size, 1, none⟩ = some (.slice A1' N.ids.length c1') ∧ W11.cell? ⟨w.heap.size, 2, none⟩ = some (.slice A1'' N.inputs.length c1'') := ⟨(HF11.out.boxN bx1 (by omega)).cell 0 (by simp), (HF11.out.boxN bx1 (by omega)).cell 1 (by simp), (HF11.out.boxN bx1 (by omega)).cell 2 (by simp)⟩
        refine hK.out _ _ ⟨fun _ => hS12, ?_⟩
        clear hK K hS4
        try simp only [List.getElem_toArray, List.getElem_cons_succ, List.getElem_cons_zero, Act.put, List.setIfInBounds_toArray, List.set_cons_zero, List.set_cons_succ]
        refine anyU_ready (rs := [5]) (by kernel_rfl) (by simp) ?_
        refine ReadyU.cons (i := 5) rfl (fun K hK => ?_) ?_
        case refine_1 =>
          simp only [List.getElem_toArray, List.getElem_cons_succ, List.getElem_cons_zero]
          refine ite_is (by rfl) ?_
          simp [go_sem]
          refine (l1OwnR _ N.inputs _ _ _ (netIns (Net.turned G1.out HF11.out (by omega) (by omega))) (by omega) (by have := HNN.out; rcases HNI.out with h | h <;> omega)).mono ?_
          rintro e W13 ⟨r13, rfl, hr13, hb13⟩
          have hg13 := grown_below hb13; clear hb13
          have hs13 := hg13.size
          have HF13 := Lib.hid (HF11.out.still hg13); clear HF11
          have VD13 := Lib.hid (IntS.still VD11.out hg13 (by omega)); clear VD11
          have OUT13 := Lib.hid (BoxN.still OUT11.out hg13); clear OUT11
          obtain ⟨AVI, cVI, rfl, _, _⟩ := hr13.dims
          have VI13 := Lib.hid hr13; clear hr13
          have hS14 : W13.cell? ⟨w.heap.size, 0, none⟩ = some (.slice (some ⟨b1, o1, none⟩) N.ends.length c1) ∧ W13.cell? ⟨w.heap.size, 1, none⟩ = some (.slice A1' N.ids.length c1') ∧ W13.cell? ⟨w.heap.size, 2, none⟩ = some (.slice A1'' N.inputs.length c1'') := ⟨(HF13.out.boxN bx1 (by omega)).cell 0 (by simp), (HF13.out.boxN bx1 (by omega)).cell 1 (by simp), (HF13.out.boxN bx1 (by omega)).cell 2 (by simp)⟩
          refine hK.out _ _ ⟨fun _ => hS14, ?_⟩
          clear hK K hS12
          try simp only [List.getElem_toArray, List.getElem_cons_succ, List.getElem_cons_zero, Act.put, List.setIfInBounds_toArray, List.set_cons_zero, List.set_cons_succ]
          refine anyU_take (i := 6) (v := .agg #[.slice none 0 0, .slice AVD N.ids.length cVD, .slice AVI N.inputs.length cVI]) rfl (by kernel_rfl) (by kernel_rfl) (by kernel_rfl) (fun _ _ _ ⟨_, _, h, _⟩ => by cases h) ⟨by rfl, fun w' hS' => (by obtain ⟨s1, s2, s3⟩ := hS'; go_simp)⟩ hS14 ?_
          simp only [List.getElem_toArray, List.getElem_cons_succ, List.getElem_cons_zero, Act.put, List.setIfInBounds_toArray, List.set_cons_zero, List.set_cons_succ]
          refine anyU_ready (rs := [8]) (by kernel_rfl) (by simp) ?_
          refine ReadyU.cons (i := 8) rfl (fun K hK => ?_) ?_
          case refine_1 =>
            simp only [List.getElem_toArray, List.getElem_cons_succ, List.getElem_cons_zero]
            refine ite_is (by rfl) ?_
            have kd0 : W13.cell? ⟨W3.heap.size, 0, none⟩ = some (.slice none 0 0) := OUT13.out.cell 0 (by simp)
            have kf0 := OUT13.out.frozen 0
            have kd1 : W13.cell? ⟨W3.heap.size, 1, none⟩ = some (.slice none 0 0) := OUT13.out.cell 1 (by simp)
            have kf1 := OUT13.out.frozen 1
            have kd2 : W13.cell? ⟨W3.heap.size, 2, none⟩ = some (.slice none 0 0) := OUT13.out.cell 2 (by simp)
            have kf2 := OUT13.out.frozen 2
            simp [go_sem, kd0, kf0, kd1, kf1, kd2, kf2]
            refine nameA ?_
            intro W15 HW15
            have hg15 : W13.grownBy W15 (some (W3.heap.size)) := by rw [HW15.out]; exact grownBy_setCell (p := ⟨W3.heap.size, 2, none⟩) (grownBy_setCell (p := ⟨W3.heap.size, 1, none⟩) (grown_set _ ⟨W3.heap.size, 0, none⟩ _) rfl _) rfl _
            have hs15 := hg15.size
            have HF15 := Lib.hid (HF13.out.grown hg15 (fun g e => .inr (by cases e; omega)))
            have VD15 := Lib.hid (IntS.far VD13.out hg15 (by omega) (fun g e => by cases e; omega)); clear VD13
            have VI15 := Lib.hid (IntS.far VI13.out hg15 (by omega) (fun g e => by cases e; omega)); clear VI13
            have OUT15 := Lib.hid (show BoxN W15 (W3.heap.size) #[.slice none 0 0, .slice AVD N.ids.length cVD, .slice AVI N.inputs.length cVI] 32 by rw [HW15.out]; exact ((OUT13.out.set 0 _).set 1 _).set 2 _)
            clear HW15 kd0 kf0 kd1 kf1 kd2 kf2 OUT13
            have hS16 : W15.cell? ⟨w.heap.size, 0, none⟩ = some (.slice (some ⟨b1, o1, none⟩) N.ends.length c1) ∧ W15.cell? ⟨w.heap.size, 1, none⟩ = some (.slice A1' N.ids.length c1') ∧ W15.cell? ⟨w.heap.size, 2, none⟩ = some (.slice A1'' N.inputs.length c1'') := ⟨(HF15.out.boxN bx1 (by omega)).cell 0 (by simp), (HF15.out.boxN bx1 (by omega)).cell 1 (by simp), (HF15.out.boxN bx1 (by omega)).cell 2 (by simp)⟩
            refine hK.out _ _ ⟨fun _ => hS16, ?_⟩
            clear hK K hS14
            try simp only [List.getElem_toArray, List.getElem_cons_succ, List.getElem_cons_zero, Act.put, List.setIfInBounds_toArray, List.set_cons_zero, List.set_cons_succ]
            clear hS16
            refine anyU_done (by kernel_rfl) ?_ _
            exact ⟨[.pointer (some ⟨w.heap.size, 1, none⟩), .slice A1' N.ids.length c1', .slice AVD N.ids.length cVD, .pointer (some ⟨w.heap.size, 2, none⟩), .slice A1'' N.inputs.length c1'', .slice AVI N.inputs.length cVI, .agg #[.slice none 0 0, .slice AVD N.ids.length cVD, .slice AVI N.inputs.length cVI], .pointer (some ⟨W3.heap.size, 0, none⟩)], ⟨_, W1.heap.size, W3.heap.size, W11.heap.size, W13.heap.size, _, _, _, _, rfl, OUT15, VD15, VI15, by omega, by omega, by omega, by omega, by omega, by omega, by omega, by omega, HF15⟩, rfl, by simp only [puts, Act.put, List.setIfInBounds_toArray, List.set_cons_zero, List.set_cons_succ]⟩
          exact ReadyU.nil
        exact ReadyU.nil
      exact ReadyU.nil
    refine ReadyU.cons (i := 7) rfl (fun K hK => ?_) ?_
    case refine_1 =>
      simp only [List.getElem_toArray, List.getElem_cons_succ, List.getElem_cons_zero]
      refine ite_is (by rfl) ?_
      simp [go_sem]
      refine nameA ?_
      intro W17 HW17
      have hg17 : W1.grownBy W17 none := by rw [HW17.out]; exact grown_alloc _ _
      have OUT17 := Lib.hid (show BoxN W17 W1.heap.size #[.slice none 0 0, .slice none 0 0, .slice none 0 0] 32 by rw [HW17.out]; exact BoxN.new _ _ _)
      have hz17 : W1.heap.size < W17.heap.size := OUT17.out.lt
      clear HW17
      have hs17 := hg17.size
      have HF17 := Lib.hid (HF1.out.still hg17); clear HF1
      have hS18 : W17.cell? ⟨w.heap.size, 0, none⟩ = some (.slice (some ⟨b1, o1, none⟩) N.ends.length c1) ∧ W17.cell? ⟨w.heap.size, 1, none⟩ = some (.slice A1' N.ids.length c1') ∧ W17.cell? ⟨w.heap.size, 2, none⟩ = some (.slice A1'' N.inputs.length c1'') := ⟨(HF17.out.boxN bx1 (by omega)).cell 0 (by simp), (HF17.out.boxN bx1 (by omega)).cell 1 (by simp), (HF17.out.boxN bx1 (by omega)).cell 2 (by simp)⟩
      refine hK.out _ _ ⟨fun _ => hS18, ?_⟩
      clear hK K hS2
      try simp only [List.getElem_toArray, List.getElem_cons_succ, List.getElem_cons_zero, Act.put, List.setIfInBounds_toArray, List.set_cons_zero, List.set_cons_succ]
      refine anyU_ready (rs := [2]) (by kernel_rfl) (by simp) ?_
      refine ReadyU.cons (i := 2) rfl (fun K hK => ?_) ?_
      case refine_1 =>
        simp only [List.getElem_toArray, List.getElem_cons_succ, List.getElem_cons_zero]
        refine ite_is (by rfl) ?_
        simp [go_sem]
        refine (l1OwnR _ N.ids _ _ _ (netIds (Net.turned G1.out HF17.out (by omega) (by omega))) (by omega) (by have := HNN.out; rcases HNI.out with h | h <;> omega)).mono ?_
        rintro e W19 ⟨r19, rfl, hr19, hb19⟩
        have hg19 := grown_below hb19; clear hb19
        have hs19 := hg19.size
        have HF19 := Lib.hid (HF17.out.still hg19); clear HF17
        have OUT19 := Lib.hid (BoxN.still OUT17.out hg19); clear OUT17
        obtain ⟨AVD, cVD, rfl, _, _⟩ := hr19.dims
        have VD19 := Lib.hid hr19; clear hr19
        have hS20 : W19.cell? ⟨w.heap.size, 0, none⟩ = some (.slice (some ⟨b1, o1, none⟩) N.ends.length c1) ∧ W19.cell? ⟨w.heap.size, 1, none⟩ = some (.slice A1' N.ids.length c1') ∧ W19.cell? ⟨w.heap.size, 2, none⟩ = some (.slice A1'' N.inputs.length c1'') := ⟨(HF19.out.boxN bx1 (by omega)).cell 0 (by simp), (HF19.out.boxN bx1 (by omega)).cell 1 (by simp), (HF19.out.boxN bx1 (by omega)).cell 2 (by simp)⟩
        refine hK.out _ _ ⟨fun _ => hS20, ?_⟩
        clear hK K hS18
        try simp only [List.getElem_toArray, List.getElem_cons_succ, List.getElem_cons_zero, Act.put, List.setIfInBounds_toArray, List.set_cons_zero, List.set_cons_succ]
        refine anyU_ready (rs := [5]) (by kernel_rfl) (by simp) ?_
        refine ReadyU.cons (i := 5) rfl (fun K hK => ?_) ?_
        case refine_1 =>
          simp only [List.getElem_toArray, List.getElem_cons_succ, List.getElem_cons_zero]
          refine ite_is (by rfl) ?_
          simp [go_sem]
          refine (l1OwnR _ N.inputs _ _ _ (netIns (Net.turned G1.out HF19.out (by omega) (by omega))) (by omega) (by have := HNN.out; rcases HNI.out with h | h <;> omega)).mono ?_
          rintro e W21 ⟨r21, rfl, hr21, hb21⟩
          have hg21 := grown_below hb21; clear hb21
          have hs21 := hg21.size
          have HF21 := Lib.hid (HF19.out.still hg21); clear HF19
          have OUT21 := Lib.hid (BoxN.still OUT19.out hg21); clear OUT19
          have VD21 := Lib.hid (IntS.still VD19.out hg21 (by omega)); clear VD19
          obtain ⟨AVI, cVI, rfl, _, _⟩ := hr21.dims
          have VI21 := Lib.hid hr21; clear hr21
          have hS22 : W21.cell? ⟨w.heap.size, 0, none⟩ = some (.slice (some ⟨b1, o1, none⟩) N.ends.length c1) ∧ W21.cell? ⟨w.heap.size, 1, none⟩ = some (.slice A1' N.ids.length c1') ∧ W21.cell? ⟨w.heap.size, 2, none⟩ = some (.slice A1'' N.inputs.length c1'') := ⟨(HF21.out.boxN bx1 (by omega)).cell 0 (by simp), (HF21.out.boxN bx1 (by omega)).cell 1 (by simp), (HF21.out.boxN bx1 (by omega)).cell 2 (by simp)⟩
          refine hK.out _ _ ⟨fun _ => hS22, ?_⟩
          clear hK K hS20
          try simp only [List.getElem_toArray, List.getElem_cons_succ, List.getElem_cons_zero, Act.put, List.setIfInBounds_toArray, List.set_cons_zero, List.set_cons_succ]
          refine anyU_take (i := 6) (v := .agg #[.slice none 0 0, .slice AVD N.ids.length cVD, .slice AVI N.inputs.length cVI]) rfl (by kernel_rfl) (by kernel_rfl) (by kernel_rfl) (fun _ _ _ ⟨_, _, h, _⟩ => by cases h) ⟨by rfl, fun w' hS' => (by obtain ⟨s1, s2, s3⟩ := hS'; go_simp)⟩ hS22 ?_
          simp only [List.getElem_toArray, List.getElem_cons_succ, List.getElem_cons_zero, Act.put, List.setIfInBounds_toArray, List.set_cons_zero, List.set_cons_succ]
          refine anyU_ready (rs := [8]) (by kernel_rfl) (by simp) ?_
          refine ReadyU.cons (i := 8) rfl (fun K hK => ?_) ?_
          case refine_1 =>
            simp only [List.getElem_toArray, List.getElem_cons_succ, List.getElem_cons_zero]
            refine ite_is (by rfl) ?_
            have kd0 : W21.cell? ⟨W1.heap.size, 0, none⟩ = some (.slice none 0 0) := OUT21.out.cell 0 (by simp)
            have kf0 := OUT21.out.frozen 0
            have kd1 : W21.cell? ⟨W1.heap.size, 1, none⟩ = some (.slice none 0 0) := OUT21.out.cell 1 (by simp)
            have kf1 := OUT21.out.frozen 1
            have kd2 : W21.cell? ⟨W1.heap.size, 2, none⟩ = some (.slice none 0 0) := OUT21.out.cell 2 (by simp)
            have kf2 := OUT21.out.frozen 2
            simp [go_sem, kd0, kf0, kd1, kf1, kd2, kf2]
            refine nameA ?_
            intro W23 HW23
            have hg23 : W21.grownBy W23 (some (W1.heap.size)) := by rw [HW23.out]; exact grownBy_setCell (p := ⟨W1.heap.size, 2, none⟩) (grownBy_setCell (p := ⟨W1.heap.size, 1, none⟩) (grown_set _ ⟨W1.heap.size, 0, none⟩ _) rfl _) rfl _
            have hs23 := hg23.size
            have HF23 := Lib.hid (HF21.out.grown hg23 (fun g e => .inr (by cases e; omega)))
            have VD23 := Lib.hid (IntS.far VD21.out hg23 (by omega) (fun g e => by cases e; omega)); clear VD21
            have VI23 := Lib.hid (IntS.far VI21.out hg23 (by omega) (fun g e => by cases e; omega)); clear VI21
            have OUT23 := Lib.hid (show BoxN W23 (W1.heap.size) #[.slice none 0 0, .slice AVD N.ids.length cVD, .slice AVI N.inputs.length cVI] 32 by rw [HW23.out]; exact ((OUT21.out.set 0 _).set 1 _).set 2 _)
            clear HW23 kd0 kf0 kd1 kf1 kd2 kf2 OUT21
            have hS24 : W23.cell? ⟨w.heap.size, 0, none⟩ = some (.slice (some ⟨b1, o1, none⟩) N.ends.length c1) ∧ W23.cell? ⟨w.heap.size, 1, none⟩ = some (.slice A1' N.ids.length c1') ∧ W23.cell? ⟨w.heap.size, 2, none⟩ = some (.slice A1'' N.inputs.length c1'') := ⟨(HF23.out.boxN bx1 (by omega)).cell 0 (by simp), (HF23.out.boxN bx1 (by omega)).cell 1 (by simp), (HF23.out.boxN bx1 (by omega)).cell 2 (by simp)⟩
            refine hK.out _ _ ⟨fun _ => hS24, ?_⟩
            clear hK K hS22
            try simp only [List.getElem_toArray, List.getElem_cons_succ, List.getElem_cons_zero, Act.put, List.setIfInBounds_toArray, List.set_cons_zero, List.set_cons_succ]
            clear hS24
            refine anyU_done (by kernel_rfl) ?_ _
            exact ⟨[.pointer (some ⟨w.heap.size, 1, none⟩), .slice A1' N.ids.length c1', .slice AVD N.ids.length cVD, .pointer (some ⟨w.heap.size, 2, none⟩), .slice A1'' N.inputs.length c1'', .slice AVI N.inputs.length cVI, .agg #[.slice none 0 0, .slice AVD N.ids.length cVD, .slice AVI N.inputs.length cVI], .pointer (some ⟨W1.heap.size, 0, none⟩)], ⟨_, W17.heap.size, W19.heap.size, W19.heap.size, W21.heap.size, _, _, _, _, rfl, OUT23, VD23, VI23, by omega, by omega, by omega, by omega, by omega, by omega, by omega, by omega, HF23⟩, rfl, by simp only [puts, Act.put, List.setIfInBounds_toArray, List.set_cons_zero, List.set_cons_succ]⟩
          exact ReadyU.nil
        exact ReadyU.nil
      exact ReadyU.nil
    exact ReadyU.nil
  case refine_2 =>
    rintro vs W25 ⟨gO, d1, d2, d3, i2, c8, c9, A8, A9, rfl, HB, HD8, HI9, ho1, ho2, ho3, ho5, ho4, hgO, hgo1, hgo2, HF25⟩
    simp only [puts, Act.put, List.setIfInBounds_toArray, List.set_cons_zero, List.set_cons_succ]
    have hs25 := HF25.out.size
    have hgl := HB.out.lt
    have kbx1_0 : W25.cell? ⟨w.heap.size, 0, none⟩ = some (.slice (some ⟨b1, o1, none⟩) N.ends.length c1) := (HF25.out.boxN bx1 (by omega)).cell 0 (by simp)
    have kbx1_1 : W25.cell? ⟨w.heap.size, 1, none⟩ = some (.slice A1' N.ids.length c1') := (HF25.out.boxN bx1 (by omega)).cell 1 (by simp)
    have kbx1_2 : W25.cell? ⟨w.heap.size, 2, none⟩ = some (.slice A1'' N.inputs.length c1'') := (HF25.out.boxN bx1 (by omega)).cell 2 (by simp)
    go_wp2_with fail
    clear kbx1_0 kbx1_1 kbx1_2
    go_loopw [16] (fun kv wr => ∃ (k : Nat) (vE : Value) (top : Nat), k ≤ N.ends.length ∧ kv = .int .i64 k ∧ Hid (BoxN wr gO #[vE, .slice A8 N.ids.length c8, .slice A9 N.inputs.length c9] 32) ∧ Hid (OwnES wr W25.heap.size top 64 vE (N.ends.take k)) ∧ Hid (IntS wr d1 d2 (.slice A8 N.ids.length c8) N.ids) ∧ Hid (IntS wr d3 i2 (.slice A9 N.inputs.length c9) N.inputs) ∧ W25.heap.size ≤ wr.heap.size ∧ Hid (Turned WA.heap.size WA.heap.size WA wr)) (fun kv _ => N.ends.length - (intOf kv).toNat)
    case atStart => exact ⟨0, .slice none 0 0, W25.heap.size, Nat.zero_le _, rfl, HB, Lib.hid (OwnES.nil _ _ _ _ (Nat.le_refl _) (Nat.le_refl _)), HD8, HI9, Nat.le_refl _, HF25⟩
    case round =>
      clear HF25
      obtain ⟨k, vE, top, hk, rfl, HB, HO, HD8, HI9, hzc, HF26⟩ := hrel
      have hs26 := HF26.out.size
      obtain ⟨wt, rfl⟩ : ∃ wt : World, wt = wr := ⟨_, rfl⟩
      have htop : top ≤ wt.heap.size := let ⟨_, _, _, _, _, _, h, _⟩ := HO.out; h
      have htop2 : _ ≤ top := let ⟨_, _, _, _, _, h, _⟩ := HO.out; h
      have HLE := Lib.hid HO.out.lt
      have hcr : (N.ends.take k).length = k := by rw [List.length_take]; omega
      have HCR := Lib.hid hcr
      obtain ⟨rows, HRS⟩ : ∃ l, Hid (N.ends.take k = l) := ⟨_, Lib.hid rfl⟩
      rw [HRS.out] at HO hcr
      have HCR := Lib.hid hcr; clear hcr
      by_cases hkn : k < N.ends.length
      case neg =>
        obtain rfl : k = N.ends.length := by omega
        have HRW := Lib.hid (show rows = N.ends by rw [← HRS.out]; simp)
        have HO2 := HO.out
        rw [HRW.out] at HO2
        obtain ⟨gT, cE, rfl, HRN⟩ := OwnES.rn (base := WA.heap.size) (OwnES.mono (base := W25.heap.size) HO2 htop (Nat.le_refl _) |>.weakB (show i2 ≤ W25.heap.size by omega)) (by omega) ho1 ho2 ho3 ho5 HD8.out HI9.out
        obtain ⟨A9', c9', e9, hcE, hcE2⟩ := HO2.len
        injection e9 with e9a e9b e9
        subst e9
        subst e9a
        clear e9b
        have ko0 : wt.cell? ⟨gO, 0, none⟩ = some (.slice (some ⟨gT, 0, none⟩) N.ends.length cE) := HB.out.cell 0 (by simp)
        have ko1 : wt.cell? ⟨gO, 1, none⟩ = some (.slice A8 N.ids.length c8) := HB.out.cell 1 (by simp)
        have ko2 : wt.cell? ⟨gO, 2, none⟩ = some (.slice A9 N.inputs.length c9) := HB.out.cell 2 (by simp)
        have HBR := Lib.hid (HF26.out.boxN bxx0 (by omega))
        have kr0 : wt.cell? ⟨w.heap.size + 1, 0, none⟩ = some (.slice none 0 0) := HBR.out.cell 0 (by simp)
        have kr1 : wt.cell? ⟨w.heap.size + 1, 1, none⟩ = some (.slice none 0 0) := HBR.out.cell 1 (by simp)
        have kr2 : wt.cell? ⟨w.heap.size + 1, 2, none⟩ = some (.slice none 0 0) := HBR.out.cell 2 (by simp)
        have kf0 := HBR.out.frozen 0
        have kf1 := HBR.out.frozen 1
        have kf2 := HBR.out.frozen 2
        have HRN9 := Lib.hid HRN; clear HRN HO2
        go_wp2_with fail
        ((try simp only [Exit.inBlock, Exit.then]); refine bodyPost_ret (results_cell1 rfl _ _ _ rfl (load_net (((HBR.out.set 0 (.slice (some ⟨gT, 0, none⟩) N.ends.length cE)).set 1 (.slice A8 N.ids.length c8)).set 2 (.slice A9 N.inputs.length c9)))) rfl ?_)
        have hg9 : wt.grownBy (((wt.setCell ⟨w.heap.size + 1, 0, none⟩ (.slice (some ⟨gT, 0, none⟩) N.ends.length cE)).setCell ⟨w.heap.size + 1, 1, none⟩ (.slice A8 N.ids.length c8)).setCell ⟨w.heap.size + 1, 2, none⟩ (.slice A9 N.inputs.length c9)) (some (w.heap.size + 1)) := grownBy_setCell (p := ⟨w.heap.size + 1, 2, none⟩) (grownBy_setCell (p := ⟨w.heap.size + 1, 1, none⟩) (grown_set wt ⟨w.heap.size + 1, 0, none⟩ _) rfl _) rfl _
        exact ⟨d1, d2, d3, i2, gT, _, _, _, _, _, rfl, hcE, hcE2, RN.up (RN.weak (RN.far HRN9.out hg9 (fun k e => by cases e; omega)) (by omega)) hg9.size (Nat.le_refl _), ((HF26.out.below_of hbA (by omega) (by omega)).grown hg9 (by omega) fun g e => by cases e; omega)⟩
      have hki : (k : Int) < N.ends.length := by omega
      have hd6 := good_deg HG.out hkn
      have HTK := Lib.hid (show N.ends.take (k + 1) = rows ++ [nthL N.ends k] by rw [List.take_succ_eq_append_getElem hkn, HRS.out, nthL_eq hkn])
      obtain ⟨AE, cE, rfl, hcE, hdE⟩ := HO.out.len
      obtain ⟨Aa, ca, hba, qa, hca, hda, hRa⟩ := Net.rowIn G1.out hkn
      replace qa := (HF26.out.cell (by omega) (by omega)).trans qa
      have Ra := Lib.hid hRa; clear hRa
      go_wp2_with fail
      clear qa
      have HROW := Lib.hid (EndS.turned Ra.out HF26.out (by omega) (by omega))
      have HES := Lib.hid HO.out; clear HO
      refine wp_region_U (fun w' => w'.cell? ⟨gO, 0, none⟩ = some (.slice AE rows.length cE) ∧ w'.cell? ⟨gO, 1, none⟩ = some (.slice A8 N.ids.length c8) ∧ w'.cell? ⟨gO, 2, none⟩ = some (.slice A9 N.inputs.length c9)) [8] (by kernel_rfl) ?_
      refine nameU ?_
      intro W27 HW27
      have hg27 : wt.grownBy W27 none := by rw [HW27.out]; exact grown_drew _
      clear HW27
      have hs27 := hg27.size
      have HF27 := Lib.hid (HF26.out.still hg27); clear HF26
      have OUT27 := Lib.hid (BoxN.still HB.out hg27); clear HB
      have VD27 := Lib.hid (IntS.still HD8.out hg27 (by omega)); clear HD8
      have VI27 := Lib.hid (IntS.still HI9.out hg27 (by omega)); clear HI9
      have ROW27 := Lib.hid (EndS.still HROW.out hg27 (by omega)); clear HROW
      have ES27 := Lib.hid (OwnES.still HES.out hg27); clear HES
      have hS28 : W27.cell? ⟨gO, 0, none⟩ = some (.slice AE rows.length cE) ∧ W27.cell? ⟨gO, 1, none⟩ = some (.slice A8 N.ids.length c8) ∧ W27.cell? ⟨gO, 2, none⟩ = some (.slice A9 N.inputs.length c9) := ⟨OUT27.out.cell 0 (by simp), OUT27.out.cell 1 (by simp), OUT27.out.cell 2 (by simp)⟩
      refine anyU_take (i := 0) (v := .pointer (some ⟨gO, 0, none⟩)) rfl (by kernel_rfl) (by kernel_rfl) (by kernel_rfl) (fun _ _ _ h => h) ⟨by rfl, fun w' hS' => (by obtain ⟨s1, s2, s3⟩ := hS'; go_simp)⟩ hS28 ?_
      simp only [List.getElem_toArray, List.getElem_cons_zero, Act.put, List.setIfInBounds_toArray, List.set_cons_zero, List.set_cons_succ]
      refine anyU_take (i := 1) (v := .slice AE rows.length cE) rfl (by kernel_rfl) (by kernel_rfl) (by kernel_rfl) (fun _ _ _ h => h) ⟨by rfl, fun w' hS' => (by obtain ⟨s1, s2, s3⟩ := hS'; go_simp)⟩ hS28 ?_
      simp only [List.getElem_toArray, List.getElem_cons_succ, List.getElem_cons_zero, Act.put, List.setIfInBounds_toArray, List.set_cons_zero, List.set_cons_succ]
      refine anyU_take (i := 3) (v := .slice Aa (nthL N.ends k).length ca) rfl (by kernel_rfl) (by kernel_rfl) (by kernel_rfl) (fun _ _ _ h => h) ⟨by rfl, fun w' hS' => (by obtain ⟨s1, s2, s3⟩ := hS'; go_simp)⟩ hS28 ?_
      simp only [List.getElem_toArray, List.getElem_cons_succ, List.getElem_cons_zero, Act.put, List.setIfInBounds_toArray, List.set_cons_zero, List.set_cons_succ]
      refine anyU_ready (rs := [2]) (by kernel_rfl) (by simp) ?_
      refine ReadyU.cons (i := 2) rfl (fun K hK => ?_) ReadyU.nil
      simp only [List.getElem_toArray, List.getElem_cons_succ, List.getElem_cons_zero]
      refine ite_is (by rfl) ?_
      simp [go_sem]
      refine nameA ?_
      intro W29 HW29
      have hg29 : W27.grownBy W29 none := by rw [HW29.out]; exact grown_alloc _ _
      have hz29 : W27.heap.size < W29.heap.size := by rw [HW29.out]; simp
      have HE1 := Lib.hid (show W29.ownsRow W27.heap.size 66 2 (.slice (some ⟨W27.heap.size, 0, none⟩) 0 0) 0 [] by rw [HW29.out]; exact owns_empty _ _ _ _ rfl (Nat.le_refl _))
      clear HW29
      have hs29 := hg29.size
      have HF29 := Lib.hid (HF27.out.still hg29); clear HF27
      have OUT29 := Lib.hid (BoxN.still OUT27.out hg29); clear OUT27
      have VD29 := Lib.hid (IntS.still VD27.out hg29 (by omega)); clear VD27
      have VI29 := Lib.hid (IntS.still VI27.out hg29 (by omega)); clear VI27
      have ROW29 := Lib.hid (EndS.still ROW27.out hg29 (by omega)); clear ROW27
      have ES29 := Lib.hid (OwnES.still ES27.out hg29); clear ES27
      have hS30 : W29.cell? ⟨gO, 0, none⟩ = some (.slice AE rows.length cE) ∧ W29.cell? ⟨gO, 1, none⟩ = some (.slice A8 N.ids.length c8) ∧ W29.cell? ⟨gO, 2, none⟩ = some (.slice A9 N.inputs.length c9) := ⟨OUT29.out.cell 0 (by simp), OUT29.out.cell 1 (by simp), OUT29.out.cell 2 (by simp)⟩
      refine hK.out _ _ ⟨fun _ => hS30, ?_⟩
      clear hK K hS28
      try simp only [List.getElem_toArray, List.getElem_cons_succ, List.getElem_cons_zero, Act.put, List.setIfInBounds_toArray, List.set_cons_zero, List.set_cons_succ]
      refine anyU_ready (rs := [4]) (by kernel_rfl) (by simp) ?_
      refine ReadyU.cons (i := 4) rfl (fun K hK => ?_) ReadyU.nil
      refine step_append_src Tryz.underlying64 infoEndR rfl (by omega) (by omega) W29 (by rfl) _ (by rfl) HE1.out (by rfl) (flatZ (nthL N.ends k)) (flatZ_length _) (EndS.src ROW29.out rfl) (by rfl) (flatZ_one _) (by omega) (by omega) ?_
      intro v4 W31 ho4 hg31 hat4
      have HEL := Lib.hid HE1.out.lt
      have hs31 := hg31.size
      have HF31 := Lib.hid (HF29.out.grown hg31 (fun g e => by have := HEL.out g e; omega)); clear HF29
      have OUT31 := Lib.hid (BoxN.far OUT29.out hg31 (fun g e => by have := HEL.out g e; omega)); clear OUT29
      have VD31 := Lib.hid (IntS.far VD29.out hg31 (by omega) (fun g e => by have := HEL.out g e; omega)); clear VD29
      have VI31 := Lib.hid (IntS.far VI29.out hg31 (by omega) (fun g e => by have := HEL.out g e; omega)); clear VI29
      have ROW31 := Lib.hid (EndS.far ROW29.out hg31 (by omega) (fun g e => by have := HEL.out g e; omega)); clear ROW29
      have ES31 := Lib.hid (OwnES.farT ES29.out hg31 (fun g e => ⟨by have := HEL.out g e; omega, fun h => by have := HEL.out g e; have := HLE.out g h; omega⟩)); clear ES29
      have HN4 := Lib.hid (EndS.ofOwn (show W31.ownsRow W27.heap.size 66 2 v4 (nthL N.ends k).length (flatZ (nthL N.ends k)) by have h := ho4; rw [Nat.zero_add] at h; exact h))
      have h4s := hg31.size
      clear ho4 hat4 HE1
      obtain ⟨A4, c4, rfl, _, _⟩ := HN4.out.dims
      have hS32 : W31.cell? ⟨gO, 0, none⟩ = some (.slice AE rows.length cE) ∧ W31.cell? ⟨gO, 1, none⟩ = some (.slice A8 N.ids.length c8) ∧ W31.cell? ⟨gO, 2, none⟩ = some (.slice A9 N.inputs.length c9) := ⟨OUT31.out.cell 0 (by simp), OUT31.out.cell 1 (by simp), OUT31.out.cell 2 (by simp)⟩
      refine hK.out _ _ ⟨fun _ => hS32, ?_⟩
      clear hK K hS30
      try simp only [List.getElem_toArray, List.getElem_cons_succ, List.getElem_cons_zero, Act.put, List.setIfInBounds_toArray, List.set_cons_zero, List.set_cons_succ]
      refine anyU_ready (rs := [5]) (by kernel_rfl) (by simp) ?_
      refine ReadyU.cons (i := 5) rfl (fun K hK => ?_) ReadyU.nil
      simp only [List.getElem_toArray, List.getElem_cons_succ, List.getElem_cons_zero]
      refine ite_is (by rfl) ?_
      simp [go_sem]
      refine nameA ?_
      intro W33 HW33
      have hg33 : W31.grownBy W33 none := by rw [HW33.out]; exact grown_alloc _ _
      have hz33 : W31.heap.size < W33.heap.size := by rw [HW33.out]; simp
      have BV := Lib.hid (show BoxN W33 W31.heap.size #[.slice A4 (nthL N.ends k).length c4] 64 by rw [HW33.out]; exact BoxN.new _ _ _)
      clear HW33
      have hs33 := hg33.size
      have HF33 := Lib.hid (HF31.out.still hg33); clear HF31
      have OUT33 := Lib.hid (BoxN.still OUT31.out hg33); clear OUT31
      have VD33 := Lib.hid (IntS.still VD31.out hg33 (by omega)); clear VD31
      have VI33 := Lib.hid (IntS.still VI31.out hg33 (by omega)); clear VI31
      have ES33 := Lib.hid (OwnES.still ES31.out hg33); clear ES31
      have N433 := Lib.hid (EndS.still HN4.out hg33 (by omega)); clear HN4
      have hS34 : W33.cell? ⟨gO, 0, none⟩ = some (.slice AE rows.length cE) ∧ W33.cell? ⟨gO, 1, none⟩ = some (.slice A8 N.ids.length c8) ∧ W33.cell? ⟨gO, 2, none⟩ = some (.slice A9 N.inputs.length c9) := ⟨OUT33.out.cell 0 (by simp), OUT33.out.cell 1 (by simp), OUT33.out.cell 2 (by simp)⟩
      refine hK.out _ _ ⟨fun _ => hS34, ?_⟩
      clear hK K hS32
      try simp only [List.getElem_toArray, List.getElem_cons_succ, List.getElem_cons_zero, Act.put, List.setIfInBounds_toArray, List.set_cons_zero, List.set_cons_succ]
      obtain ⟨vs9, hv9, HOV, HOP⟩ := OwnES.open_ ES33.out
      have hvr : vs9.length ≤ 40 := by have := HCR.out; omega
      have HOV1 := Lib.hid (show W33.ownsRow W25.heap.size 64 1 (.slice AE rows.length cE) vs9.length vs9 from HOV)
      have HOP1 := Lib.hid HOP; clear HOV HOP hv9
      refine anyU_ready (rs := [6]) (by kernel_rfl) (by simp) ?_
      refine ReadyU.cons (i := 6) rfl (fun K hK => ?_) ReadyU.nil
      refine step_append_own2 Tryz.underlying30 infoRowR rfl (by omega) (by omega) W33 (by rfl) _ (by rfl) HOV1.out (by rfl) _ (owns_box BV.out rfl 0 (Nat.zero_le _)) (by rfl) (by intro u hu; simp only [List.mem_cons, List.not_mem_nil, or_false] at hu; rcases hu with rfl; rfl) (by omega) (by omega) ?_
      intro v6 W35 ho6 hg35 hat6
      have hs35 := hg35.size
      have HF35 := Lib.hid (HF33.out.grown hg35 (fun g e => by have := HLE.out g e; omega)); clear HF33
      have OUT35 := Lib.hid (BoxN.far OUT33.out hg35 (fun g e => by have := HLE.out g e; omega)); clear OUT33
      have VD35 := Lib.hid (IntS.far VD33.out hg35 (by omega) (fun g e => by have := HLE.out g e; omega)); clear VD33
      have VI35 := Lib.hid (IntS.far VI33.out hg35 (by omega) (fun g e => by have := HLE.out g e; omega)); clear VI33
      have h6s := hg35.size
      have HO6 := Lib.hid (HOP1.out W35 v6 (.slice A4 (nthL N.ends k).length c4) (nthL N.ends k) W27.heap.size W31.heap.size N433.out (by omega) (by omega) (by omega) (fun g e => .inl (by have := HLE.out g e; omega)) ho6 hg35 hat6)
      rw [← HTK.out] at HO6
      obtain ⟨A6, c6, hq6, _⟩ := HO6.out.len
      have hl6 : (N.ends.take (k + 1)).length = k + 1 := by rw [List.length_take]; omega
      rw [hl6] at hq6
      subst hq6
      clear hl6 ho6 hat6 HOV1 HOP1 BV
      have hS36 : W35.cell? ⟨gO, 0, none⟩ = some (.slice AE rows.length cE) ∧ W35.cell? ⟨gO, 1, none⟩ = some (.slice A8 N.ids.length c8) ∧ W35.cell? ⟨gO, 2, none⟩ = some (.slice A9 N.inputs.length c9) := ⟨OUT35.out.cell 0 (by simp), OUT35.out.cell 1 (by simp), OUT35.out.cell 2 (by simp)⟩
      refine hK.out _ _ ⟨fun _ => hS36, ?_⟩
      clear hK K hS34
      try simp only [List.getElem_toArray, List.getElem_cons_succ, List.getElem_cons_zero, Act.put, List.setIfInBounds_toArray, List.set_cons_zero, List.set_cons_succ]
      refine anyU_take (i := 7) (v := .pointer (some ⟨gO, 0, none⟩)) rfl (by kernel_rfl) (by kernel_rfl) (by kernel_rfl) (fun _ _ _ h => h) ⟨by rfl, fun w' hS' => (by obtain ⟨s1, s2, s3⟩ := hS'; go_simp)⟩ hS36 ?_
      simp only [List.getElem_toArray, List.getElem_cons_succ, List.getElem_cons_zero, Act.put, List.setIfInBounds_toArray, List.set_cons_zero, List.set_cons_succ]
      have kd1 : W35.cell? ⟨gO, 0, none⟩ = some (.slice AE rows.length cE) := OUT35.out.cell 0 (by simp)
      have kdf := OUT35.out.frozen 0
      refine anyU_ready (rs := [8]) (by kernel_rfl) (by simp) ?_
      refine ReadyU.cons (i := 8) rfl (fun K hK => ?_) ReadyU.nil
      simp only [List.getElem_toArray, List.getElem_cons_succ, List.getElem_cons_zero]
      refine ite_is (by rfl) ?_
      simp [go_sem, kd1, kdf]
      refine hK.out _ _ ⟨fun h => absurd h (by decide), ?_⟩
      clear hK K
      try simp only [List.getElem_toArray, List.getElem_cons_succ, List.getElem_cons_zero, Act.put, List.setIfInBounds_toArray, List.set_cons_zero, List.set_cons_succ]
      refine nameU ?_
      intro W37 HW37
      have hg37 : W35.grownBy W37 (some gO) := by rw [HW37.out]; exact grown_set _ ⟨gO, 0, none⟩ _
      have hs37 := hg37.size
      have HF37 := Lib.hid (HF35.out.grown hg37 (fun g e => by cases e; omega)); clear HF35
      have VD37 := Lib.hid (IntS.far VD35.out hg37 (by omega) (fun g e => by cases e; omega)); clear VD35
      have VI37 := Lib.hid (IntS.far VI35.out hg37 (by omega) (fun g e => by cases e; omega)); clear VI35
      have OUT37 := Lib.hid (show BoxN W37 gO #[.slice A6 (k + 1) c6, .slice A8 N.ids.length c8, .slice A9 N.inputs.length c9] 32 by rw [HW37.out]; exact OUT35.out.set 0 _)
      have HO8 := Lib.hid (OwnES.far HO6.out hg37 (fun g e => by cases e; omega))
      clear HW37 kd1 kdf OUT35 HO6
      clear hS36
      refine anyU_done (by kernel_rfl) ?_ _
      go_wp2_with fail
      go_roundw
      case rel => exact ⟨k + 1, .slice A6 (k + 1) c6, W31.heap.size, by omega, by go_num, OUT37, HO8, VD37, VI37, by omega, HF37⟩
      case measure => simp [intOf]; omega

end Go.Proofs.YtmdlginjblnfoaaGreat
