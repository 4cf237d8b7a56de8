/-
  Several texts in one: Rn5. No condition on any program.
-/
import Derived.Test.YtmdlginjblnfoaaGreatCzP
import Derived.Test.YtmdlginjblnfoaaGreatCzN
import Derived.Test.YtmdlginjblnfoaaGreatCzK

/- Contract: neRenumber (reference). -/
namespace Go.Proofs.YtmdlginjblnfoaaGreat
open Go.ChangeShapes Go.WideShapes Go.ChangeAt Go.RowKit
set_option linter.unusedVariables false

set_option maxHeartbeats 16000000 in
set_option maxRecDepth 100000 in
theorem neRenumber_any (v1 : Value) (N : NetD) (lo1 hi1 : Nat) (v2 : Value) (p : List Int) (lo2 hi2 : Nat) (w : World) (h1 : Net w lo1 hi1 v1 N) (hh1 : hi1 ≤ w.heap.size) (h2 : IntS w lo2 hi2 v2 p) (hh2 : hi2 ≤ w.heap.size) (hg : N.good = true) (hp : p.length = N.ends.length) (hpv : ∀ j, j < N.ends.length → ∃ t : Nat, nth p j = t ∧ t < N.ends.length) :
    Calls Tryz.prog 35 #[v1, v2] w fun e w' => ∃ r, e = .returned (r) ∧ NetZ w' w.heap.size w'.heap.size r (renN N p) ∧ Below w.heap.size w w' := by
  obtain ⟨n1, n40⟩ := good_n hg
  have HG := Lib.hid hg; clear hg
  have HNN := Lib.hid (good_insl HG.out); have HNI := Lib.hid (good_idsl HG.out); have HPV := Lib.hid hpv; have HPL := Lib.hid hp; clear hpv hp
  have F1 := Lib.hid h1
  obtain ⟨A1, c1, A1', c1', A1'', c1'', rfl, hc1, hd1, _⟩ := h1.parts
  obtain ⟨b1, o1, _, _, rfl, _⟩ := Net.rowAt F1.out (u := 0) (by omega)
  clear h1
  have F2 := Lib.hid h2
  obtain ⟨A2, c2, rfl, hc2, hd2⟩ := h2.dims
  clear h2
  obtain ⟨WA, HWA⟩ : ∃ W, Hid (W = ((w.alloc (.cells #[.slice (some ⟨b1, o1, none⟩) N.ends.length c1, .slice A1' N.ids.length c1', .slice A1'' N.inputs.length c1''] 32)).alloc (.cells #[.slice none 0 0, .slice none 0 0, .slice none 0 0] 32))) := ⟨_, Lib.hid rfl⟩
  have hbA : Below w.heap.size w WA := by rw [HWA.out]; exact (((Below.refl _ _).alloc (Nat.le_refl _) _).alloc (by simp; try omega) _)
  have hsA : w.heap.size + 2 ≤ WA.heap.size := by rw [HWA.out]; simp; try omega
  have bx1 : BoxN WA (w.heap.size) #[.slice (some ⟨b1, o1, none⟩) N.ends.length c1, .slice A1' N.ids.length c1', .slice A1'' N.inputs.length c1''] 32 := by rw [HWA.out]; exact ((BoxN.new' _ _ _ (by simp)).still (grown_alloc _ _))
  have bxx0 : BoxN WA (w.heap.size + 1) #[.slice none 0 0, .slice none 0 0, .slice none 0 0] 32 := by rw [HWA.out]; exact (BoxN.new' _ _ _ (by simp))
  have G1 := Lib.hid (Net.below F1.out hbA hh1); clear F1
  have G2 := Lib.hid (IntS.below F2.out hbA hh2); clear F2
  go_enter Tryz.func35, Tryz.ntmps35
  go_upto_region 1 with (fail)
  rw [← HWA.out]; clear HWA
  have kbx1_0 : WA.cell? ⟨w.heap.size, 0, none⟩ = some (.slice (some ⟨b1, o1, none⟩) N.ends.length c1) := bx1.cell 0 (by simp)
  have kbx1_1 : WA.cell? ⟨w.heap.size, 1, none⟩ = some (.slice A1' N.ids.length c1') := bx1.cell 1 (by simp)
  have kbx1_2 : WA.cell? ⟨w.heap.size, 2, none⟩ = some (.slice A1'' N.inputs.length c1'') := bx1.cell 2 (by simp)
  go_wp2_with fail
  clear kbx1_0 kbx1_1 kbx1_2
  refine (neOwn_any _ N lo1 hi1 _ G1.out (by omega) HG.out).mono ?_
  rintro e W1 ⟨d1, d2, d3, i2, gT, c8, c9, cE, A8, A9, rfl, hcE, hcE2, hR1, hb1⟩
  have hg1 := grown_below hb1; clear hb1
  have hs1 := hg1.size
  have HF1 := Lib.hid ((Turned.refl WA.heap.size WA.heap.size WA).still hg1)
  have HR1 := Lib.hid hR1; clear hR1
  obtain ⟨b9, o9, e9, hb9, hb9', _, _⟩ := HR1.out.ins.opened (j := 0) (by have := HNN.out; omega)
  subst e9
  unfold maxLen at hcE2
  have hgTO := HR1.out.g2; have hi2O := HR1.out.o4
  go_upto_region 2 with (fail)
  refine nameC ?_
  intro W2 HW2
  have hg2 : W1.grownBy W2 none := by rw [HW2.out]; exact grown_alloc _ _
  have hs2 := hg2.size
  have HF2 := Lib.hid (HF1.out.still hg2); clear HF1
  have R2 := Lib.hid (RN.still HR1.out hg2); clear HR1
  have OUT2 := Lib.hid (show BoxN W2 W1.heap.size #[.slice (some ⟨gT, 0, none⟩) N.ends.length cE, .slice A8 N.ids.length c8, .slice (some ⟨b9, o9, none⟩) N.inputs.length c9] 32 by rw [HW2.out]; exact BoxN.new _ _ _)
  clear HW2
  obtain ⟨gO, hgO⟩ : ∃ g : Nat, g = W1.heap.size := ⟨_, rfl⟩
  rw [← hgO] at OUT2 hgTO hi2O ⊢
  have hgOl : gO < W2.heap.size := OUT2.out.lt
  have hgOb : WA.heap.size ≤ gO := by omega
  clear hgO
  have kbx1_0 : W2.cell? ⟨w.heap.size, 0, none⟩ = some (.slice (some ⟨b1, o1, none⟩) N.ends.length c1) := (HF2.out.boxN bx1 (by omega)).cell 0 (by simp)
  have kbx1_1 : W2.cell? ⟨w.heap.size, 1, none⟩ = some (.slice A1' N.ids.length c1') := (HF2.out.boxN bx1 (by omega)).cell 1 (by simp)
  have kbx1_2 : W2.cell? ⟨w.heap.size, 2, none⟩ = some (.slice A1'' N.inputs.length c1'') := (HF2.out.boxN bx1 (by omega)).cell 2 (by simp)
  go_wp2_with fail
  clear kbx1_0 kbx1_1 kbx1_2
  go_loopw [16] (fun kv wr => ∃ (k : Nat), k ≤ N.ends.length ∧ kv = .int .i64 k ∧ Hid (BoxN wr gO #[.slice (some ⟨gT, 0, none⟩) N.ends.length cE, .slice A8 N.ids.length c8, .slice (some ⟨b9, o9, none⟩) N.inputs.length c9] 32) ∧ Hid (RN wr WA.heap.size d1 d2 d3 i2 wr.heap.size gT (.slice (some ⟨gT, 0, none⟩) N.ends.length cE) (.slice A8 N.ids.length c8) (.slice (some ⟨b9, o9, none⟩) N.inputs.length c9) (renTo N p k)) ∧ Hid (Turned WA.heap.size WA.heap.size WA wr)) (fun kv _ => N.ends.length - (intOf kv).toNat)
  case atStart => exact ⟨0, Nat.zero_le _, rfl, OUT2, Lib.hid (RN.up R2.out (by omega) (Nat.le_refl _)), HF2⟩
  case round =>
    clear HF2
    obtain ⟨k, hk, rfl, HB, HR, HF3⟩ := hrel
    have hs3 := HF3.out.size
    obtain ⟨wt, rfl⟩ : ∃ wt : World, wt = wr := ⟨_, rfl⟩
    by_cases hkn : k < N.ends.length
    case neg =>
      obtain rfl : k = N.ends.length := by omega
      have ko0 : wt.cell? ⟨gO, 0, none⟩ = some (.slice (some ⟨gT, 0, none⟩) N.ends.length cE) := HB.out.cell 0 (by simp)
      have ko1 : wt.cell? ⟨gO, 1, none⟩ = some (.slice A8 N.ids.length c8) := HB.out.cell 1 (by simp)
      have ko2 : wt.cell? ⟨gO, 2, none⟩ = some (.slice (some ⟨b9, o9, none⟩) N.inputs.length c9) := HB.out.cell 2 (by simp)
      have HBR := Lib.hid (HF3.out.boxN bxx0 (by omega))
      have kr0 : wt.cell? ⟨w.heap.size + 1, 0, none⟩ = some (.slice none 0 0) := HBR.out.cell 0 (by simp)
      have kr1 : wt.cell? ⟨w.heap.size + 1, 1, none⟩ = some (.slice none 0 0) := HBR.out.cell 1 (by simp)
      have kr2 : wt.cell? ⟨w.heap.size + 1, 2, none⟩ = some (.slice none 0 0) := HBR.out.cell 2 (by simp)
      have kf0 := HBR.out.frozen 0
      have kf1 := HBR.out.frozen 1
      have kf2 := HBR.out.frozen 2
      go_wp2_with fail
      ((try simp only [Exit.inBlock, Exit.then]); refine bodyPost_ret (results_cell1 rfl _ _ _ rfl (load_net (((HBR.out.set 0 (.slice (some ⟨gT, 0, none⟩) N.ends.length cE)).set 1 (.slice A8 N.ids.length c8)).set 2 (.slice (some ⟨b9, o9, none⟩) N.inputs.length c9)))) rfl ?_)
      have hg9 : wt.grownBy (((wt.setCell ⟨w.heap.size + 1, 0, none⟩ (.slice (some ⟨gT, 0, none⟩) N.ends.length cE)).setCell ⟨w.heap.size + 1, 1, none⟩ (.slice A8 N.ids.length c8)).setCell ⟨w.heap.size + 1, 2, none⟩ (.slice (some ⟨b9, o9, none⟩) N.inputs.length c9)) (some (w.heap.size + 1)) := grownBy_setCell (p := ⟨w.heap.size + 1, 2, none⟩) (grownBy_setCell (p := ⟨w.heap.size + 1, 1, none⟩) (grown_set wt ⟨w.heap.size + 1, 0, none⟩ _) rfl _) rfl _
      refine ⟨_, rfl, ?_, ((HF3.out.below_of hbA (by omega) (by omega)).grown hg9 (by omega) fun g e => by cases e; omega)⟩
      exact ⟨_, _, _, _, _, _, _, _, rfl, RN.up (RN.weak (RN.far HR.out hg9 (fun k e => by cases e; omega)) (by omega)) hg9.size (Nat.le_refl _)⟩
    have hki : (k : Int) < N.ends.length := by omega
    have hd6 := good_deg HG.out hkn
    obtain ⟨q, hq, hqn⟩ := HPV.out k hkn
    have HQ := Lib.hid hq; clear hq
    have HGT := Lib.hid HR.out.g2; have HGA := Lib.hid HR.out.g1; have hi2w := HR.out.o4; have hd1w := HR.out.o1; have hd2w := HR.out.o2; have hd3w := HR.out.o3; have hd5w := HR.out.o5
    have hgtw := HGT.out; have hgaw := HGA.out
    obtain ⟨bP, oP, eP, _, hbP, xP, _⟩ := ((IntS.turned G2.out HF3.out (by omega) (by omega))).opened (j := k) (by rw [HPL.out]; exact hkn)
    subst eP
    rw [HQ.out] at xP
    clear xP
    obtain ⟨Aa, ca, hba, qa, hca, hda, hRa⟩ := Net.rowIn G1.out hkn
    replace qa := (HF3.out.cell (by omega) (by omega)).trans qa
    have Ra := Lib.hid hRa; clear hRa
    go_wp2_with fail
    clear qa
    have HRA := Lib.hid (EndS.turned Ra.out HF3.out (by omega) (by omega))
    go_loopw [23, 8] (fun mv ov wr => ∃ (m : Nat), m ≤ (nthL N.ends k).length ∧ mv = .int .i64 m ∧ Hid (OwnE wr wt.heap.size 66 ov (renP N p k m)) ∧ Hid (Below wt.heap.size wt wr)) (fun mv ov _ => (nthL N.ends k).length - (intOf mv).toNat)
    case atStart => exact ⟨0, Nat.zero_le _, rfl, Lib.hid (by simp only [renP, List.take_zero, List.map_nil]; exact OwnE.nil _ _ _), Lib.hid (Below.refl _ _)⟩
    case round =>
      obtain ⟨m, hm, rfl, HOE, HBW⟩ := hrel
      obtain ⟨wu, rfl⟩ : ∃ wu : World, wu = wr := ⟨_, rfl⟩
      have hsu := HBW.out.size
      have hpl := renP_len N p k m
      obtain ⟨Au, cu, rfl, hcu, hdu⟩ := HOE.out.len
      by_cases hml : m < (nthL N.ends k).length
      case pos =>
        have hmi : (m : Int) < (nthL N.ends k).length := by omega
        obtain ⟨be, oe, rfl, _, _, xe, xe'⟩ := (EndS.below HRA.out HBW.out (by omega)).opened hml
        obtain ⟨t, r, et, ht, hr, eu⟩ := good_end HG.out hkn hml
        rw [et] at xe xe'
        dsimp only at xe xe'
        obtain ⟨s, hs0, hsn⟩ := HPV.out t ht
        have HKS := Lib.hid (renP_succ hml et hs0)
        have HSV := Lib.hid hs0; clear hs0 et eu
        have hrd := good_deg HG.out ht
        have hapE := Lib.hid HOE.out.lt
        go_upto_region 9 with (fail)
        refine nameC ?_
        intro W5 HW5
        have hg5 : wu.grownBy W5 none := by rw [HW5.out]; exact grown_alloc _ _
        have hs5 := hg5.size
        have BE := Lib.hid (show BoxN W5 wu.heap.size #[.int .i64 t, .int .i64 r] 66 by rw [HW5.out]; exact BoxN.new _ _ _)
        clear HW5 xe xe'
        have HB2 := Lib.hid (HBW.out.trans ((grown_to_below hg5).mono (by omega)))
        have HO2 := Lib.hid (OwnE.still HOE.out hg5)
        clear HOE hg5 HBW
        have z4 := (IntS.at_ (IntS.below (IntS.turned G2.out HF3.out (by omega) (by omega)) HB2.out (by omega)) (j := t) (by rw [HPL.out]; exact ht)).1
        rw [HSV.out] at z4
        have T2 := Lib.hid (show CellH W5 ⟨bP, oP + t, none⟩ (.int .i64 (s : Nat)) from ⟨z4, by show bP < _; omega⟩)
        have htp : (t : Int) < p.length := by rw [HPL.out]; omega
        clear z4
        obtain ⟨l, HLL⟩ : ∃ l, Hid (renP N p k m = l) := ⟨_, Lib.hid rfl⟩
        rw [HLL.out] at HO2 HKS hpl hapE hcu
        rw [HLL.out]
        refine wp_region_U (fun w' => w'.cell? ⟨wu.heap.size, 0, none⟩ = some (.int .i64 t) ∧ w'.cell? ⟨wu.heap.size, 1, none⟩ = some (.int .i64 r) ∧ w'.cell? ⟨bP, oP + t, none⟩ = some (.int .i64 (s : Nat))) [] (by kernel_rfl) ?_
        refine nameU ?_
        intro W6 HW6
        have hg6 : W5.grownBy W6 none := by rw [HW6.out]; exact grown_drew _
        clear HW6
        have hs6 := hg6.size
        have HF6 := Lib.hid ((Turned.refl W5.heap.size W5.heap.size W5).still hg6)
        have BE6 := Lib.hid (BoxN.still BE.out hg6); clear BE
        have T26 := Lib.hid (CellH.still T2.out hg6); clear T2
        have OW6 := Lib.hid (OwnE.still HO2.out hg6); clear HO2
        have hS7 : W6.cell? ⟨wu.heap.size, 0, none⟩ = some (.int .i64 t) ∧ W6.cell? ⟨wu.heap.size, 1, none⟩ = some (.int .i64 r) ∧ W6.cell? ⟨bP, oP + t, none⟩ = some (.int .i64 (s : Nat)) := ⟨BE6.out.cell 0 (by simp), BE6.out.cell 1 (by simp), T26.out.cell⟩
        refine anyU_take (i := 0) (v := .slice Au l.length cu) rfl (by kernel_rfl) (by kernel_rfl) (by kernel_rfl) (fun _ _ _ h => h) ⟨by rfl, fun w' hS' => (by obtain ⟨s1, s2, s3⟩ := hS'; go_simp)⟩ hS7 ?_
        simp only [List.getElem_toArray, List.getElem_cons_zero, Act.put, List.setIfInBounds_toArray, List.set_cons_zero, List.set_cons_succ]
        refine anyU_take (i := 1) (v := .slice (some ⟨bP, oP, none⟩) p.length c2) rfl (by kernel_rfl) (by kernel_rfl) (by kernel_rfl) (fun _ _ _ h => h) ⟨by rfl, fun w' hS' => (by obtain ⟨s1, s2, s3⟩ := hS'; go_simp)⟩ hS7 ?_
        simp only [List.getElem_toArray, List.getElem_cons_succ, List.getElem_cons_zero, Act.put, List.setIfInBounds_toArray, List.set_cons_zero, List.set_cons_succ]
        refine anyU_take (i := 2) (v := .pointer (some ⟨wu.heap.size, 0, none⟩)) rfl (by kernel_rfl) (by kernel_rfl) (by kernel_rfl) (fun _ _ _ h => h) ⟨by rfl, fun w' hS' => (by obtain ⟨s1, s2, s3⟩ := hS'; go_simp)⟩ hS7 ?_
        simp only [List.getElem_toArray, List.getElem_cons_succ, List.getElem_cons_zero, Act.put, List.setIfInBounds_toArray, List.set_cons_zero, List.set_cons_succ]
        refine anyU_take (i := 3) (v := .int .i64 t) rfl (by kernel_rfl) (by kernel_rfl) (by kernel_rfl) (fun _ _ _ h => h) ⟨by rfl, fun w' hS' => (by obtain ⟨s1, s2, s3⟩ := hS'; go_simp)⟩ hS7 ?_
        simp only [List.getElem_toArray, List.getElem_cons_succ, List.getElem_cons_zero, Act.put, List.setIfInBounds_toArray, List.set_cons_zero, List.set_cons_succ]
        refine anyU_take (i := 4) (v := .pointer (some ⟨bP, oP + t, none⟩)) rfl (by kernel_rfl) (by kernel_rfl) (by kernel_rfl) (fun _ _ _ h => h) ⟨by rfl, fun w' hS' => (by obtain ⟨s1, s2, s3⟩ := hS'; simp [go_sem, htp])⟩ hS7 ?_
        simp only [List.getElem_toArray, List.getElem_cons_succ, List.getElem_cons_zero, Act.put, List.setIfInBounds_toArray, List.set_cons_zero, List.set_cons_succ]
        refine anyU_take (i := 5) (v := .int .i64 (s : Nat)) rfl (by kernel_rfl) (by kernel_rfl) (by kernel_rfl) (fun _ _ _ h => h) ⟨by rfl, fun w' hS' => (by obtain ⟨s1, s2, s3⟩ := hS'; go_simp)⟩ hS7 ?_
        simp only [List.getElem_toArray, List.getElem_cons_succ, List.getElem_cons_zero, Act.put, List.setIfInBounds_toArray, List.set_cons_zero, List.set_cons_succ]
        refine anyU_take (i := 6) (v := .pointer (some ⟨wu.heap.size, 1, none⟩)) rfl (by kernel_rfl) (by kernel_rfl) (by kernel_rfl) (fun _ _ _ h => h) ⟨by rfl, fun w' hS' => (by obtain ⟨s1, s2, s3⟩ := hS'; go_simp)⟩ hS7 ?_
        simp only [List.getElem_toArray, List.getElem_cons_succ, List.getElem_cons_zero, Act.put, List.setIfInBounds_toArray, List.set_cons_zero, List.set_cons_succ]
        refine anyU_take (i := 7) (v := .int .i64 r) rfl (by kernel_rfl) (by kernel_rfl) (by kernel_rfl) (fun _ _ _ h => h) ⟨by rfl, fun w' hS' => (by obtain ⟨s1, s2, s3⟩ := hS'; go_simp)⟩ hS7 ?_
        simp only [List.getElem_toArray, List.getElem_cons_succ, List.getElem_cons_zero, Act.put, List.setIfInBounds_toArray, List.set_cons_zero, List.set_cons_succ]
        refine anyU_take (i := 8) (v := .agg #[.int .i64 (s : Nat), .int .i64 r]) rfl (by kernel_rfl) (by kernel_rfl) (by kernel_rfl) (fun _ _ _ h => h) ⟨by rfl, fun w' hS' => (by obtain ⟨s1, s2, s3⟩ := hS'; go_simp)⟩ hS7 ?_
        simp only [List.getElem_toArray, List.getElem_cons_succ, List.getElem_cons_zero, Act.put, List.setIfInBounds_toArray, List.set_cons_zero, List.set_cons_succ]
        refine anyU_ready (rs := [9]) (by kernel_rfl) (by simp) ?_
        refine ReadyU.cons (i := 9) rfl (fun K hK => ?_) ReadyU.nil
        simp only [List.getElem_toArray, List.getElem_cons_succ, List.getElem_cons_zero]
        refine ite_is (by rfl) ?_
        simp [go_sem]
        refine nameA ?_
        intro W8 HW8
        have hg8 : W6.grownBy W8 none := by rw [HW8.out]; exact grown_alloc _ _
        have BV := Lib.hid (show BoxN W8 W6.heap.size #[.int .i64 (s : Nat), .int .i64 r] 66 by rw [HW8.out]; exact BoxN.new _ _ _)
        have hz8 : W6.heap.size < W8.heap.size := BV.out.lt
        clear HW8
        have hs8 := hg8.size
        have HF8 := Lib.hid (HF6.out.still hg8); clear HF6
        have BE8 := Lib.hid (BoxN.still BE6.out hg8); clear BE6
        have T28 := Lib.hid (CellH.still T26.out hg8); clear T26
        have OW8 := Lib.hid (OwnE.still OW6.out hg8); clear OW6
        have hS9 : W8.cell? ⟨wu.heap.size, 0, none⟩ = some (.int .i64 t) ∧ W8.cell? ⟨wu.heap.size, 1, none⟩ = some (.int .i64 r) ∧ W8.cell? ⟨bP, oP + t, none⟩ = some (.int .i64 (s : Nat)) := ⟨BE8.out.cell 0 (by simp), BE8.out.cell 1 (by simp), T28.out.cell⟩
        refine hK.out _ _ ⟨fun _ => hS9, ?_⟩
        clear hK K hS7
        try simp only [List.getElem_toArray, List.getElem_cons_succ, List.getElem_cons_zero, Act.put, List.setIfInBounds_toArray, List.set_cons_zero, List.set_cons_succ]
        refine anyU_ready (rs := [10]) (by kernel_rfl) (by simp) ?_
        refine ReadyU.cons (i := 10) rfl (fun K hK => ?_) ReadyU.nil
        refine step_append_own2 Tryz.underlying64 infoEndR rfl (by omega) (by omega) W8 (by rfl) _ (by rfl) OW8.out (by rfl) _ (owns_box BV.out rfl 0 (Nat.zero_le _)) (by rfl) (by intro u hu; simp only [List.mem_cons, List.not_mem_nil, or_false] at hu; rcases hu with rfl | rfl <;> rfl) (by omega) (by omega) ?_
        intro v5 W10 ho5 hg10 hat5
        have hs10 := hg10.size
        have BE10 := Lib.hid (BoxN.far BE8.out hg10 (fun g e => by have := hapE.out g e; omega))
        have T210 := Lib.hid (CellH.far T28.out hg10 (fun g e => by have := hapE.out g e; show g ≠ bP; omega))
        have HO5 := Lib.hid (show OwnE W10 wt.heap.size 66 v5 (l ++ [(s, r)]) by unfold OwnE; rw [flatP_snoc, List.length_append]; exact ho5)
        have HB5 := Lib.hid ((HF8.out.below_of HB2.out (by omega) (by omega)).grown hg10 (by omega) fun g e => by have := hapE.out g e; omega)
        clear ho5 hat5
        have hS11 : W10.cell? ⟨wu.heap.size, 0, none⟩ = some (.int .i64 t) ∧ W10.cell? ⟨wu.heap.size, 1, none⟩ = some (.int .i64 r) ∧ W10.cell? ⟨bP, oP + t, none⟩ = some (.int .i64 (s : Nat)) := ⟨BE10.out.cell 0 (by simp), BE10.out.cell 1 (by simp), T210.out.cell⟩
        refine hK.out _ _ ⟨fun _ => hS11, ?_⟩
        clear hK K hS9
        try simp only [List.getElem_toArray, List.getElem_cons_succ, List.getElem_cons_zero, Act.put, List.setIfInBounds_toArray, List.set_cons_zero, List.set_cons_succ]
        refine anyU_ready (rs := [11]) (by kernel_rfl) (by simp) ?_
        refine ReadyU.cons (i := 11) rfl (fun K hK => ?_) ReadyU.nil
        simp only [List.getElem_toArray, List.getElem_cons_succ, List.getElem_cons_zero]
        refine ite_is (by rfl) ?_
        simp [go_sem]
        refine hK.out _ _ ⟨fun _ => hS11, ?_⟩
        clear hK K
        try simp only [List.getElem_toArray, List.getElem_cons_succ, List.getElem_cons_zero, Act.put, List.setIfInBounds_toArray, List.set_cons_zero, List.set_cons_succ]
        clear hS11
        refine anyU_done (by kernel_rfl) ?_ _
        go_wp2_with fail
        go_roundw
        case rel => exact ⟨m + 1, by omega, by go_num, Lib.hid (by rw [HKS.out]; exact HO5.out), HB5⟩
        case measure => simp [intOf]; omega
      obtain rfl : m = (nthL N.ends k).length := by omega
      have HRPA := Lib.hid (renP_all (p := p) HG.out HPV.out hkn)
      have HRPL := Lib.hid (show (renP N p k (nthL N.ends k).length).length = (nthL N.ends k).length by rw [← castL_length, HRPA.out, mapEnds_len])
      have HLV := Lib.hid (show EndS wu wt.heap.size wu.heap.size (.slice Au (renP N p k (nthL N.ends k).length).length cu) (mapEnds p (nthL N.ends k)) by rw [← HRPA.out]; exact HOE.out.ends)
      rw [HRPL.out] at HLV hcu ⊢
      clear HOE HRPA
      have HRL9 := Lib.hid (show rowOf (mapEnds p (nthL N.ends k)).length (.slice Au (nthL N.ends k).length cu) = none ∨ rowOf (mapEnds p (nthL N.ends k)).length (.slice Au (nthL N.ends k).length cu) ≠ some gT by
        rcases Sl.row HLV.out with h | ⟨b, h, h1, h2⟩
        · exact .inl h
        · right; rw [h]; intro e; injection e with e; omega)
      have HF20 := Lib.hid (HF3.out.still (grown_below HBW.out))
      have OUT20 := Lib.hid (BoxN.still HB.out (grown_below HBW.out))
      have R20 := Lib.hid (RN.below HR.out (HBW.out.mono (by omega)))
      have xP := ((IntS.below (IntS.turned G2.out HF3.out (by omega) (by omega)) HBW.out (by omega)).at_ (j := k) (by rw [HPL.out]; exact hkn)).1
      rw [HQ.out] at xP
      have PC20 := Lib.hid (show CellH wu ⟨bP, oP + k, none⟩ (.int .i64 (q : Nat)) from ⟨xP, by show bP < _; omega⟩)
      clear xP HB HR HF3
      go_wp2_with fail
      have hqi : (q : Int) < N.ends.length := by omega
      have hkp : (k : Int) < p.length := by rw [HPL.out]; exact hki
      obtain ⟨rl1, rl2, rl3⟩ := renTo_len N p k
      have HRL1 := Lib.hid rl1; have HRL2 := Lib.hid rl2; have HRL3 := Lib.hid rl3; clear rl1 rl2 rl3
      refine wp_region_U (fun w' => w'.cell? ⟨gO, 0, none⟩ = some (.slice (some ⟨gT, 0, none⟩) N.ends.length cE) ∧ w'.cell? ⟨gO, 1, none⟩ = some (.slice A8 N.ids.length c8) ∧ w'.cell? ⟨gO, 2, none⟩ = some (.slice (some ⟨b9, o9, none⟩) N.inputs.length c9) ∧ w'.cell? ⟨bP, oP + k, none⟩ = some (.int .i64 (q : Nat))) [8] (by kernel_rfl) ?_
      refine nameU ?_
      intro W31 HW31
      have hg31 : wu.grownBy W31 none := by rw [HW31.out]; exact grown_drew _
      clear HW31
      have hs31 := hg31.size
      have HF31 := Lib.hid (HF20.out.still hg31); clear HF20
      have OUT31 := Lib.hid (BoxN.still OUT20.out hg31); clear OUT20
      have R31 := Lib.hid (RN.still R20.out hg31); clear R20
      have PC31 := Lib.hid (CellH.still PC20.out hg31); clear PC20
      have LV31 := Lib.hid (EndS.still HLV.out hg31 (by omega)); clear HLV
      have hS32 : W31.cell? ⟨gO, 0, none⟩ = some (.slice (some ⟨gT, 0, none⟩) N.ends.length cE) ∧ W31.cell? ⟨gO, 1, none⟩ = some (.slice A8 N.ids.length c8) ∧ W31.cell? ⟨gO, 2, none⟩ = some (.slice (some ⟨b9, o9, none⟩) N.inputs.length c9) ∧ W31.cell? ⟨bP, oP + k, none⟩ = some (.int .i64 (q : Nat)) := ⟨OUT31.out.cell 0 (by simp), OUT31.out.cell 1 (by simp), OUT31.out.cell 2 (by simp), PC31.out.cell⟩
      refine anyU_take (i := 0) (v := .pointer (some ⟨gO, 0, none⟩)) rfl (by kernel_rfl) (by kernel_rfl) (by kernel_rfl) (fun _ _ _ h => h) ⟨by rfl, fun w' hS' => (by obtain ⟨s1, s2, s3, s4⟩ := hS'; go_simp)⟩ hS32 ?_
      simp only [List.getElem_toArray, List.getElem_cons_zero, Act.put, List.setIfInBounds_toArray, List.set_cons_zero, List.set_cons_succ]
      refine anyU_take (i := 1) (v := .slice (some ⟨gT, 0, none⟩) N.ends.length cE) rfl (by kernel_rfl) (by kernel_rfl) (by kernel_rfl) (fun _ _ _ h => h) ⟨by rfl, fun w' hS' => (by obtain ⟨s1, s2, s3, s4⟩ := hS'; go_simp)⟩ hS32 ?_
      simp only [List.getElem_toArray, List.getElem_cons_succ, List.getElem_cons_zero, Act.put, List.setIfInBounds_toArray, List.set_cons_zero, List.set_cons_succ]
      refine anyU_take (i := 2) (v := .slice (some ⟨bP, oP, none⟩) p.length c2) rfl (by kernel_rfl) (by kernel_rfl) (by kernel_rfl) (fun _ _ _ h => h) ⟨by rfl, fun w' hS' => (by obtain ⟨s1, s2, s3, s4⟩ := hS'; go_simp)⟩ hS32 ?_
      simp only [List.getElem_toArray, List.getElem_cons_succ, List.getElem_cons_zero, Act.put, List.setIfInBounds_toArray, List.set_cons_zero, List.set_cons_succ]
      refine anyU_take (i := 3) (v := .int .i64 k) rfl (by kernel_rfl) (by kernel_rfl) (by kernel_rfl) (fun _ _ _ h => h) ⟨by rfl, fun w' hS' => (by obtain ⟨s1, s2, s3, s4⟩ := hS'; go_simp)⟩ hS32 ?_
      simp only [List.getElem_toArray, List.getElem_cons_succ, List.getElem_cons_zero, Act.put, List.setIfInBounds_toArray, List.set_cons_zero, List.set_cons_succ]
      refine anyU_take (i := 4) (v := .pointer (some ⟨bP, oP + k, none⟩)) rfl (by kernel_rfl) (by kernel_rfl) (by kernel_rfl) (fun _ _ _ h => h) ⟨by rfl, fun w' hS' => (by obtain ⟨s1, s2, s3, s4⟩ := hS'; simp [go_sem, hkp])⟩ hS32 ?_
      simp only [List.getElem_toArray, List.getElem_cons_succ, List.getElem_cons_zero, Act.put, List.setIfInBounds_toArray, List.set_cons_zero, List.set_cons_succ]
      refine anyU_take (i := 5) (v := .int .i64 (q : Nat)) rfl (by kernel_rfl) (by kernel_rfl) (by kernel_rfl) (fun _ _ _ h => h) ⟨by rfl, fun w' hS' => (by obtain ⟨s1, s2, s3, s4⟩ := hS'; go_simp)⟩ hS32 ?_
      simp only [List.getElem_toArray, List.getElem_cons_succ, List.getElem_cons_zero, Act.put, List.setIfInBounds_toArray, List.set_cons_zero, List.set_cons_succ]
      refine anyU_take (i := 6) (v := .slice Au (nthL N.ends k).length cu) rfl (by kernel_rfl) (by kernel_rfl) (by kernel_rfl) (fun _ _ _ h => h) ⟨by rfl, fun w' hS' => (by obtain ⟨s1, s2, s3, s4⟩ := hS'; go_simp)⟩ hS32 ?_
      simp only [List.getElem_toArray, List.getElem_cons_succ, List.getElem_cons_zero, Act.put, List.setIfInBounds_toArray, List.set_cons_zero, List.set_cons_succ]
      refine anyU_take (i := 7) (v := .pointer (some ⟨gT, q, none⟩)) rfl (by kernel_rfl) (by kernel_rfl) (by kernel_rfl) (fun _ _ _ h => h) ⟨by rfl, fun w' hS' => (by obtain ⟨s1, s2, s3, s4⟩ := hS'; simp [go_sem, hqi])⟩ hS32 ?_
      simp only [List.getElem_toArray, List.getElem_cons_succ, List.getElem_cons_zero, Act.put, List.setIfInBounds_toArray, List.set_cons_zero, List.set_cons_succ]
      obtain ⟨xv, z1, z2, z3⟩ := RN.topAt R31.out (a := q) (by rw [HRL1.out]; exact hqn)
      rw [Nat.zero_add] at z1 z3
      obtain ⟨Ax, nx, cx, rfl⟩ := RN.topForm R31.out (a := q) (by rw [HRL1.out]; exact hqn) (by rw [Nat.zero_add]; exact z1)
      have HSE := Lib.hid (RN.setE (a := q) R31.out (by rw [HRL1.out]; exact hqn) (u := .slice Au (nthL N.ends k).length cu) (xs := mapEnds p (nthL N.ends k)) (EndS.mono LV31.out (by omega) (by omega)) HRL9.out)
      rw [Nat.zero_add] at HSE
      refine anyU_ready (rs := [8]) (by kernel_rfl) (by simp) ?_
      refine ReadyU.cons (i := 8) rfl (fun K hK => ?_) ReadyU.nil
      simp only [List.getElem_toArray, List.getElem_cons_succ, List.getElem_cons_zero]
      refine ite_is (by rfl) ?_
      simp [go_sem, z1, z3]
      refine hK.out _ _ ⟨fun h => absurd h (by decide), ?_⟩
      clear hK K
      try simp only [List.getElem_toArray, List.getElem_cons_succ, List.getElem_cons_zero, Act.put, List.setIfInBounds_toArray, List.set_cons_zero, List.set_cons_succ]
      refine nameU ?_
      intro W33 HW33
      have hg33 : W31.grownBy W33 (some gT) := by rw [HW33.out]; exact grown_set _ ⟨gT, _, none⟩ _
      have hs33 := hg33.size
      have HF33 := Lib.hid (HF31.out.grown hg33 (fun g e => .inr (by cases e; omega)))
      have OUT33 := Lib.hid (BoxN.far OUT31.out hg33 (fun g e => by cases e; omega))
      have PC33 := Lib.hid (CellH.far PC31.out hg33 (fun g e => by cases e; show gT ≠ bP; omega))
      have R33 := Lib.hid (show RN W33 WA.heap.size d1 d2 d3 i2 W33.heap.size gT (.slice (some ⟨gT, 0, none⟩) N.ends.length cE) (.slice A8 N.ids.length c8) (.slice (some ⟨b9, o9, none⟩) N.inputs.length c9) ⟨(renTo N p k).ends.set q (mapEnds p (nthL N.ends k)), (renTo N p k).ids, (renTo N p k).inputs⟩ by rw [HW33.out]; exact HSE.out)
      clear HW33 z1 z3 HSE
      clear hS32
      refine anyU_done (by kernel_rfl) ?_ _
      go_wp2_with fail
      have hqin : q < N.inputs.length := by rw [HNN.out]; exact hqn
      have hqii : (q : Int) < N.inputs.length := by omega
      have hkin : k < N.inputs.length := by rw [HNN.out]; exact hkn
      have hkii : (k : Int) < N.inputs.length := by omega
      obtain ⟨bI, oI, eI, _, hbI, xI, _⟩ := (netIns (Net.turned G1.out HF33.out (by omega) (by omega))).opened (j := k) hkin
      subst eI
      obtain ⟨x, HX⟩ : ∃ x, Hid (nth N.inputs k = x) := ⟨_, Lib.hid rfl⟩
      rw [HX.out] at xI
      have XC0 := Lib.hid (show CellH W33 ⟨bI, oI + k, none⟩ (.int .i64 x) from ⟨xI, by show bI < _; omega⟩)
      have hqiin := hqin
      refine wp_region_U (fun w' => w'.cell? ⟨gO, 0, none⟩ = some (.slice (some ⟨gT, 0, none⟩) N.ends.length cE) ∧ w'.cell? ⟨gO, 1, none⟩ = some (.slice A8 N.ids.length c8) ∧ w'.cell? ⟨gO, 2, none⟩ = some (.slice (some ⟨b9, o9, none⟩) N.inputs.length c9) ∧ w'.cell? ⟨w.heap.size, 0, none⟩ = some (.slice (some ⟨b1, o1, none⟩) N.ends.length c1) ∧ w'.cell? ⟨w.heap.size, 1, none⟩ = some (.slice A1' N.ids.length c1') ∧ w'.cell? ⟨w.heap.size, 2, none⟩ = some (.slice (some ⟨bI, oI, none⟩) N.inputs.length c1'') ∧ w'.cell? ⟨bP, oP + k, none⟩ = some (.int .i64 (q : Nat)) ∧ w'.cell? ⟨bI, oI + k, none⟩ = some (.int .i64 x)) [12] (by kernel_rfl) ?_
      refine nameU ?_
      intro W34 HW34
      have hg34 : W33.grownBy W34 none := by rw [HW34.out]; exact grown_drew _
      clear HW34
      have hs34 := hg34.size
      have HF34 := Lib.hid (HF33.out.still hg34); clear HF33
      have OUT34 := Lib.hid (BoxN.still OUT33.out hg34); clear OUT33
      have PC34 := Lib.hid (CellH.still PC33.out hg34); clear PC33
      have R34 := Lib.hid (RN.still R33.out hg34); clear R33
      have XC34 := Lib.hid (CellH.still XC0.out hg34); clear XC0
      have hS35 : W34.cell? ⟨gO, 0, none⟩ = some (.slice (some ⟨gT, 0, none⟩) N.ends.length cE) ∧ W34.cell? ⟨gO, 1, none⟩ = some (.slice A8 N.ids.length c8) ∧ W34.cell? ⟨gO, 2, none⟩ = some (.slice (some ⟨b9, o9, none⟩) N.inputs.length c9) ∧ W34.cell? ⟨w.heap.size, 0, none⟩ = some (.slice (some ⟨b1, o1, none⟩) N.ends.length c1) ∧ W34.cell? ⟨w.heap.size, 1, none⟩ = some (.slice A1' N.ids.length c1') ∧ W34.cell? ⟨w.heap.size, 2, none⟩ = some (.slice (some ⟨bI, oI, none⟩) N.inputs.length c1'') ∧ W34.cell? ⟨bP, oP + k, none⟩ = some (.int .i64 (q : Nat)) ∧ W34.cell? ⟨bI, oI + k, none⟩ = some (.int .i64 x) := ⟨OUT34.out.cell 0 (by simp), OUT34.out.cell 1 (by simp), OUT34.out.cell 2 (by simp), (HF34.out.boxN bx1 (by omega)).cell 0 (by simp), (HF34.out.boxN bx1 (by omega)).cell 1 (by simp), (HF34.out.boxN bx1 (by omega)).cell 2 (by simp), PC34.out.cell, XC34.out.cell⟩
      refine anyU_take (i := 0) (v := .pointer (some ⟨gO, 2, none⟩)) rfl (by kernel_rfl) (by kernel_rfl) (by kernel_rfl) (fun _ _ _ h => h) ⟨by rfl, fun w' hS' => (by obtain ⟨s1, s2, s3, s4, s5, s6, s7, s8⟩ := hS'; go_simp)⟩ hS35 ?_
      simp only [List.getElem_toArray, List.getElem_cons_zero, Act.put, List.setIfInBounds_toArray, List.set_cons_zero, List.set_cons_succ]
      refine anyU_take (i := 1) (v := .slice (some ⟨b9, o9, none⟩) N.inputs.length c9) rfl (by kernel_rfl) (by kernel_rfl) (by kernel_rfl) (fun _ _ _ h => h) ⟨by rfl, fun w' hS' => (by obtain ⟨s1, s2, s3, s4, s5, s6, s7, s8⟩ := hS'; go_simp)⟩ hS35 ?_
      simp only [List.getElem_toArray, List.getElem_cons_succ, List.getElem_cons_zero, Act.put, List.setIfInBounds_toArray, List.set_cons_zero, List.set_cons_succ]
      refine anyU_take (i := 2) (v := .slice (some ⟨bP, oP, none⟩) p.length c2) rfl (by kernel_rfl) (by kernel_rfl) (by kernel_rfl) (fun _ _ _ h => h) ⟨by rfl, fun w' hS' => (by obtain ⟨s1, s2, s3, s4, s5, s6, s7, s8⟩ := hS'; go_simp)⟩ hS35 ?_
      simp only [List.getElem_toArray, List.getElem_cons_succ, List.getElem_cons_zero, Act.put, List.setIfInBounds_toArray, List.set_cons_zero, List.set_cons_succ]
      refine anyU_take (i := 3) (v := .int .i64 k) rfl (by kernel_rfl) (by kernel_rfl) (by kernel_rfl) (fun _ _ _ h => h) ⟨by rfl, fun w' hS' => (by obtain ⟨s1, s2, s3, s4, s5, s6, s7, s8⟩ := hS'; go_simp)⟩ hS35 ?_
      simp only [List.getElem_toArray, List.getElem_cons_succ, List.getElem_cons_zero, Act.put, List.setIfInBounds_toArray, List.set_cons_zero, List.set_cons_succ]
      refine anyU_take (i := 4) (v := .pointer (some ⟨bP, oP + k, none⟩)) rfl (by kernel_rfl) (by kernel_rfl) (by kernel_rfl) (fun _ _ _ h => h) ⟨by rfl, fun w' hS' => (by obtain ⟨s1, s2, s3, s4, s5, s6, s7, s8⟩ := hS'; simp [go_sem, hkp])⟩ hS35 ?_
      simp only [List.getElem_toArray, List.getElem_cons_succ, List.getElem_cons_zero, Act.put, List.setIfInBounds_toArray, List.set_cons_zero, List.set_cons_succ]
      refine anyU_take (i := 5) (v := .int .i64 (q : Nat)) rfl (by kernel_rfl) (by kernel_rfl) (by kernel_rfl) (fun _ _ _ h => h) ⟨by rfl, fun w' hS' => (by obtain ⟨s1, s2, s3, s4, s5, s6, s7, s8⟩ := hS'; go_simp)⟩ hS35 ?_
      simp only [List.getElem_toArray, List.getElem_cons_succ, List.getElem_cons_zero, Act.put, List.setIfInBounds_toArray, List.set_cons_zero, List.set_cons_succ]
      refine anyU_take (i := 6) (v := .pointer (some ⟨w.heap.size, 2, none⟩)) rfl (by kernel_rfl) (by kernel_rfl) (by kernel_rfl) (fun _ _ _ h => h) ⟨by rfl, fun w' hS' => (by obtain ⟨s1, s2, s3, s4, s5, s6, s7, s8⟩ := hS'; go_simp)⟩ hS35 ?_
      simp only [List.getElem_toArray, List.getElem_cons_succ, List.getElem_cons_zero, Act.put, List.setIfInBounds_toArray, List.set_cons_zero, List.set_cons_succ]
      refine anyU_take (i := 7) (v := .slice (some ⟨bI, oI, none⟩) N.inputs.length c1'') rfl (by kernel_rfl) (by kernel_rfl) (by kernel_rfl) (fun _ _ _ h => h) ⟨by rfl, fun w' hS' => (by obtain ⟨s1, s2, s3, s4, s5, s6, s7, s8⟩ := hS'; go_simp)⟩ hS35 ?_
      simp only [List.getElem_toArray, List.getElem_cons_succ, List.getElem_cons_zero, Act.put, List.setIfInBounds_toArray, List.set_cons_zero, List.set_cons_succ]
      refine anyU_take (i := 8) (v := .int .i64 k) rfl (by kernel_rfl) (by kernel_rfl) (by kernel_rfl) (fun _ _ _ h => h) ⟨by rfl, fun w' hS' => (by obtain ⟨s1, s2, s3, s4, s5, s6, s7, s8⟩ := hS'; go_simp)⟩ hS35 ?_
      simp only [List.getElem_toArray, List.getElem_cons_succ, List.getElem_cons_zero, Act.put, List.setIfInBounds_toArray, List.set_cons_zero, List.set_cons_succ]
      refine anyU_take (i := 9) (v := .pointer (some ⟨bI, oI + k, none⟩)) rfl (by kernel_rfl) (by kernel_rfl) (by kernel_rfl) (fun _ _ _ h => h) ⟨by rfl, fun w' hS' => (by obtain ⟨s1, s2, s3, s4, s5, s6, s7, s8⟩ := hS'; simp [go_sem, hkii])⟩ hS35 ?_
      simp only [List.getElem_toArray, List.getElem_cons_succ, List.getElem_cons_zero, Act.put, List.setIfInBounds_toArray, List.set_cons_zero, List.set_cons_succ]
      refine anyU_take (i := 10) (v := .int .i64 x) rfl (by kernel_rfl) (by kernel_rfl) (by kernel_rfl) (fun _ _ _ h => h) ⟨by rfl, fun w' hS' => (by obtain ⟨s1, s2, s3, s4, s5, s6, s7, s8⟩ := hS'; go_simp)⟩ hS35 ?_
      simp only [List.getElem_toArray, List.getElem_cons_succ, List.getElem_cons_zero, Act.put, List.setIfInBounds_toArray, List.set_cons_zero, List.set_cons_succ]
      refine anyU_take (i := 11) (v := .pointer (some ⟨b9, o9 + q, none⟩)) rfl (by kernel_rfl) (by kernel_rfl) (by kernel_rfl) (fun _ _ _ h => h) ⟨by rfl, fun w' hS' => (by obtain ⟨s1, s2, s3, s4, s5, s6, s7, s8⟩ := hS'; simp [go_sem, hqii])⟩ hS35 ?_
      simp only [List.getElem_toArray, List.getElem_cons_succ, List.getElem_cons_zero, Act.put, List.setIfInBounds_toArray, List.set_cons_zero, List.set_cons_succ]
      obtain ⟨z1, z3⟩ := (R34.out.ins).at_ (j := q) (by show q < (renTo N p k).inputs.length; rw [HRL3.out]; exact hqiin)
      obtain ⟨zv, HZV⟩ : ∃ z, Hid (nth (renTo N p k).inputs q = z) := ⟨_, Lib.hid rfl⟩
      have z1' : W34.cell? ⟨b9, o9 + q, none⟩ = some (.int .i64 zv) := by rw [← HZV.out]; exact z1
      have HSE := Lib.hid (RN.setI (a := q) R34.out hb9 hb9' (by show q < (renTo N p k).inputs.length; rw [HRL3.out]; exact hqiin) x)
      clear z1
      refine anyU_ready (rs := [12]) (by kernel_rfl) (by simp) ?_
      refine ReadyU.cons (i := 12) rfl (fun K hK => ?_) ReadyU.nil
      simp only [List.getElem_toArray, List.getElem_cons_succ, List.getElem_cons_zero]
      refine ite_is (by rfl) ?_
      simp [go_sem, z1', z3]
      refine hK.out _ _ ⟨fun h => absurd h (by decide), ?_⟩
      clear hK K
      try simp only [List.getElem_toArray, List.getElem_cons_succ, List.getElem_cons_zero, Act.put, List.setIfInBounds_toArray, List.set_cons_zero, List.set_cons_succ]
      refine nameU ?_
      intro W36 HW36
      have hg36 : W34.grownBy W36 (some b9) := by rw [HW36.out]; exact grown_set _ ⟨b9, _, none⟩ _
      have hs36 := hg36.size
      have HF36 := Lib.hid (HF34.out.grown hg36 (fun g e => .inr (by cases e; omega)))
      have OUT36 := Lib.hid (BoxN.far OUT34.out hg36 (fun g e => by cases e; omega))
      have PC36 := Lib.hid (CellH.far PC34.out hg36 (fun g e => by cases e; show b9 ≠ bP; omega))
      have R36 := Lib.hid (show RN W36 WA.heap.size d1 d2 d3 i2 W36.heap.size gT (.slice (some ⟨gT, 0, none⟩) N.ends.length cE) (.slice A8 N.ids.length c8) (.slice (some ⟨b9, o9, none⟩) N.inputs.length c9) ⟨(renTo N p k).ends.set q (mapEnds p (nthL N.ends k)), (renTo N p k).ids, (renTo N p k).inputs.set q x⟩ by rw [HW36.out]; exact HSE.out)
      clear HW36 z1' z3 HSE
      clear hS35
      refine anyU_done (by kernel_rfl) ?_ _
      by_cases hid : 0 < N.ids.length
      case neg =>
        have kbx1_0 : W36.cell? ⟨w.heap.size, 0, none⟩ = some (.slice (some ⟨b1, o1, none⟩) N.ends.length c1) := (HF36.out.boxN bx1 (by omega)).cell 0 (by simp)
        have kbx1_1 : W36.cell? ⟨w.heap.size, 1, none⟩ = some (.slice A1' N.ids.length c1') := (HF36.out.boxN bx1 (by omega)).cell 1 (by simp)
        have kbx1_2 : W36.cell? ⟨w.heap.size, 2, none⟩ = some (.slice (some ⟨bI, oI, none⟩) N.inputs.length c1'') := (HF36.out.boxN bx1 (by omega)).cell 2 (by simp)
        have hidi : ¬ (0 : Int) < N.ids.length := by omega
        go_wp2_with fail
        go_roundw
        case rel =>
          have HRR := R36.out
          refine ⟨k + 1, by omega, by go_num, OUT36, Lib.hid ?_, HF36⟩
          rw [show renTo N p (k + 1) = ⟨(renTo N p k).ends.set q (mapEnds p (nthL N.ends k)), (renTo N p k).ids, (renTo N p k).inputs.set q x⟩ from by simp only [renTo, HQ.out, Int.toNat_natCast, HX.out]; rw [if_neg hid]]
          exact HRR
        case measure => simp [intOf]; omega
      have hidi : (0 : Int) < N.ids.length := by omega
      have hidn : N.ids.length = N.ends.length := by have := HNI.out; omega
      have HIDN := Lib.hid hidn; clear hidn
      obtain ⟨b8, o8, e8, hb8, hb8', _, _⟩ := R36.out.ids.opened (j := 0) (by show 0 < (renTo N p k).ids.length; rw [HRL2.out]; exact hid)
      subst e8
      have hqdn : q < N.ids.length := by rw [HIDN.out]; exact hqn
      have hqdi : (q : Int) < N.ids.length := by omega
      have hqdin := hqdn
      have hkdn : k < N.ids.length := by rw [HIDN.out]; exact hkn
      have hkdi : (k : Int) < N.ids.length := by omega
      obtain ⟨bD, oD, eD, _, hbD, xD, _⟩ := (netIds (Net.turned G1.out HF36.out (by omega) (by omega))).opened (j := k) hkdn
      subst eD
      obtain ⟨xd, HXD⟩ : ∃ x, Hid (nth N.ids k = x) := ⟨_, Lib.hid rfl⟩
      rw [HXD.out] at xD
      have XC1 := Lib.hid (show CellH W36 ⟨bD, oD + k, none⟩ (.int .i64 xd) from ⟨xD, by show bD < _; omega⟩)
      have kbx1_0 : W36.cell? ⟨w.heap.size, 0, none⟩ = some (.slice (some ⟨b1, o1, none⟩) N.ends.length c1) := (HF36.out.boxN bx1 (by omega)).cell 0 (by simp)
      have kbx1_1 : W36.cell? ⟨w.heap.size, 1, none⟩ = some (.slice (some ⟨bD, oD, none⟩) N.ids.length c1') := (HF36.out.boxN bx1 (by omega)).cell 1 (by simp)
      have kbx1_2 : W36.cell? ⟨w.heap.size, 2, none⟩ = some (.slice (some ⟨bI, oI, none⟩) N.inputs.length c1'') := (HF36.out.boxN bx1 (by omega)).cell 2 (by simp)
      go_wp2_with fail
      clear kbx1_0 kbx1_1 kbx1_2
      refine wp_region_U (fun w' => w'.cell? ⟨gO, 0, none⟩ = some (.slice (some ⟨gT, 0, none⟩) N.ends.length cE) ∧ w'.cell? ⟨gO, 1, none⟩ = some (.slice (some ⟨b8, o8, none⟩) N.ids.length c8) ∧ w'.cell? ⟨gO, 2, none⟩ = some (.slice (some ⟨b9, o9, none⟩) N.inputs.length c9) ∧ w'.cell? ⟨w.heap.size, 0, none⟩ = some (.slice (some ⟨b1, o1, none⟩) N.ends.length c1) ∧ w'.cell? ⟨w.heap.size, 1, none⟩ = some (.slice (some ⟨bD, oD, none⟩) N.ids.length c1') ∧ w'.cell? ⟨w.heap.size, 2, none⟩ = some (.slice (some ⟨bI, oI, none⟩) N.inputs.length c1'') ∧ w'.cell? ⟨bP, oP + k, none⟩ = some (.int .i64 (q : Nat)) ∧ w'.cell? ⟨bD, oD + k, none⟩ = some (.int .i64 xd)) [12] (by kernel_rfl) ?_
      refine nameU ?_
      intro W37 HW37
      have hg37 : W36.grownBy W37 none := by rw [HW37.out]; exact grown_drew _
      clear HW37
      have hs37 := hg37.size
      have HF37 := Lib.hid (HF36.out.still hg37); clear HF36
      have OUT37 := Lib.hid (BoxN.still OUT36.out hg37); clear OUT36
      have PC37 := Lib.hid (CellH.still PC36.out hg37); clear PC36
      have R37 := Lib.hid (RN.still R36.out hg37); clear R36
      have XC37 := Lib.hid (CellH.still XC1.out hg37); clear XC1
      have hS38 : W37.cell? ⟨gO, 0, none⟩ = some (.slice (some ⟨gT, 0, none⟩) N.ends.length cE) ∧ W37.cell? ⟨gO, 1, none⟩ = some (.slice (some ⟨b8, o8, none⟩) N.ids.length c8) ∧ W37.cell? ⟨gO, 2, none⟩ = some (.slice (some ⟨b9, o9, none⟩) N.inputs.length c9) ∧ W37.cell? ⟨w.heap.size, 0, none⟩ = some (.slice (some ⟨b1, o1, none⟩) N.ends.length c1) ∧ W37.cell? ⟨w.heap.size, 1, none⟩ = some (.slice (some ⟨bD, oD, none⟩) N.ids.length c1') ∧ W37.cell? ⟨w.heap.size, 2, none⟩ = some (.slice (some ⟨bI, oI, none⟩) N.inputs.length c1'') ∧ W37.cell? ⟨bP, oP + k, none⟩ = some (.int .i64 (q : Nat)) ∧ W37.cell? ⟨bD, oD + k, none⟩ = some (.int .i64 xd) := ⟨OUT37.out.cell 0 (by simp), OUT37.out.cell 1 (by simp), OUT37.out.cell 2 (by simp), (HF37.out.boxN bx1 (by omega)).cell 0 (by simp), (HF37.out.boxN bx1 (by omega)).cell 1 (by simp), (HF37.out.boxN bx1 (by omega)).cell 2 (by simp), PC37.out.cell, XC37.out.cell⟩
      refine anyU_take (i := 0) (v := .pointer (some ⟨gO, 1, none⟩)) rfl (by kernel_rfl) (by kernel_rfl) (by kernel_rfl) (fun _ _ _ h => h) ⟨by rfl, fun w' hS' => (by obtain ⟨s1, s2, s3, s4, s5, s6, s7, s8⟩ := hS'; go_simp)⟩ hS38 ?_
      simp only [List.getElem_toArray, List.getElem_cons_zero, Act.put, List.setIfInBounds_toArray, List.set_cons_zero, List.set_cons_succ]
      refine anyU_take (i := 1) (v := .slice (some ⟨b8, o8, none⟩) N.ids.length c8) rfl (by kernel_rfl) (by kernel_rfl) (by kernel_rfl) (fun _ _ _ h => h) ⟨by rfl, fun w' hS' => (by obtain ⟨s1, s2, s3, s4, s5, s6, s7, s8⟩ := hS'; go_simp)⟩ hS38 ?_
      simp only [List.getElem_toArray, List.getElem_cons_succ, List.getElem_cons_zero, Act.put, List.setIfInBounds_toArray, List.set_cons_zero, List.set_cons_succ]
      refine anyU_take (i := 2) (v := .slice (some ⟨bP, oP, none⟩) p.length c2) rfl (by kernel_rfl) (by kernel_rfl) (by kernel_rfl) (fun _ _ _ h => h) ⟨by rfl, fun w' hS' => (by obtain ⟨s1, s2, s3, s4, s5, s6, s7, s8⟩ := hS'; go_simp)⟩ hS38 ?_
      simp only [List.getElem_toArray, List.getElem_cons_succ, List.getElem_cons_zero, Act.put, List.setIfInBounds_toArray, List.set_cons_zero, List.set_cons_succ]
      refine anyU_take (i := 3) (v := .int .i64 k) rfl (by kernel_rfl) (by kernel_rfl) (by kernel_rfl) (fun _ _ _ h => h) ⟨by rfl, fun w' hS' => (by obtain ⟨s1, s2, s3, s4, s5, s6, s7, s8⟩ := hS'; go_simp)⟩ hS38 ?_
      simp only [List.getElem_toArray, List.getElem_cons_succ, List.getElem_cons_zero, Act.put, List.setIfInBounds_toArray, List.set_cons_zero, List.set_cons_succ]
      refine anyU_take (i := 4) (v := .pointer (some ⟨bP, oP + k, none⟩)) rfl (by kernel_rfl) (by kernel_rfl) (by kernel_rfl) (fun _ _ _ h => h) ⟨by rfl, fun w' hS' => (by obtain ⟨s1, s2, s3, s4, s5, s6, s7, s8⟩ := hS'; simp [go_sem, hkp])⟩ hS38 ?_
      simp only [List.getElem_toArray, List.getElem_cons_succ, List.getElem_cons_zero, Act.put, List.setIfInBounds_toArray, List.set_cons_zero, List.set_cons_succ]
      refine anyU_take (i := 5) (v := .int .i64 (q : Nat)) rfl (by kernel_rfl) (by kernel_rfl) (by kernel_rfl) (fun _ _ _ h => h) ⟨by rfl, fun w' hS' => (by obtain ⟨s1, s2, s3, s4, s5, s6, s7, s8⟩ := hS'; go_simp)⟩ hS38 ?_
      simp only [List.getElem_toArray, List.getElem_cons_succ, List.getElem_cons_zero, Act.put, List.setIfInBounds_toArray, List.set_cons_zero, List.set_cons_succ]
      refine anyU_take (i := 6) (v := .pointer (some ⟨w.heap.size, 1, none⟩)) rfl (by kernel_rfl) (by kernel_rfl) (by kernel_rfl) (fun _ _ _ h => h) ⟨by rfl, fun w' hS' => (by obtain ⟨s1, s2, s3, s4, s5, s6, s7, s8⟩ := hS'; go_simp)⟩ hS38 ?_
      simp only [List.getElem_toArray, List.getElem_cons_succ, List.getElem_cons_zero, Act.put, List.setIfInBounds_toArray, List.set_cons_zero, List.set_cons_succ]
      refine anyU_take (i := 7) (v := .slice (some ⟨bD, oD, none⟩) N.ids.length c1') rfl (by kernel_rfl) (by kernel_rfl) (by kernel_rfl) (fun _ _ _ h => h) ⟨by rfl, fun w' hS' => (by obtain ⟨s1, s2, s3, s4, s5, s6, s7, s8⟩ := hS'; go_simp)⟩ hS38 ?_
      simp only [List.getElem_toArray, List.getElem_cons_succ, List.getElem_cons_zero, Act.put, List.setIfInBounds_toArray, List.set_cons_zero, List.set_cons_succ]
      refine anyU_take (i := 8) (v := .int .i64 k) rfl (by kernel_rfl) (by kernel_rfl) (by kernel_rfl) (fun _ _ _ h => h) ⟨by rfl, fun w' hS' => (by obtain ⟨s1, s2, s3, s4, s5, s6, s7, s8⟩ := hS'; go_simp)⟩ hS38 ?_
      simp only [List.getElem_toArray, List.getElem_cons_succ, List.getElem_cons_zero, Act.put, List.setIfInBounds_toArray, List.set_cons_zero, List.set_cons_succ]
      refine anyU_take (i := 9) (v := .pointer (some ⟨bD, oD + k, none⟩)) rfl (by kernel_rfl) (by kernel_rfl) (by kernel_rfl) (fun _ _ _ h => h) ⟨by rfl, fun w' hS' => (by obtain ⟨s1, s2, s3, s4, s5, s6, s7, s8⟩ := hS'; simp [go_sem, hkdi])⟩ hS38 ?_
      simp only [List.getElem_toArray, List.getElem_cons_succ, List.getElem_cons_zero, Act.put, List.setIfInBounds_toArray, List.set_cons_zero, List.set_cons_succ]
      refine anyU_take (i := 10) (v := .int .i64 xd) rfl (by kernel_rfl) (by kernel_rfl) (by kernel_rfl) (fun _ _ _ h => h) ⟨by rfl, fun w' hS' => (by obtain ⟨s1, s2, s3, s4, s5, s6, s7, s8⟩ := hS'; go_simp)⟩ hS38 ?_
      simp only [List.getElem_toArray, List.getElem_cons_succ, List.getElem_cons_zero, Act.put, List.setIfInBounds_toArray, List.set_cons_zero, List.set_cons_succ]
      refine anyU_take (i := 11) (v := .pointer (some ⟨b8, o8 + q, none⟩)) rfl (by kernel_rfl) (by kernel_rfl) (by kernel_rfl) (fun _ _ _ h => h) ⟨by rfl, fun w' hS' => (by obtain ⟨s1, s2, s3, s4, s5, s6, s7, s8⟩ := hS'; simp [go_sem, hqdi])⟩ hS38 ?_
      simp only [List.getElem_toArray, List.getElem_cons_succ, List.getElem_cons_zero, Act.put, List.setIfInBounds_toArray, List.set_cons_zero, List.set_cons_succ]
      obtain ⟨z1, z3⟩ := (R37.out.ids).at_ (j := q) (by show q < (renTo N p k).ids.length; rw [HRL2.out]; exact hqdin)
      obtain ⟨zv, HZV⟩ : ∃ z, Hid (nth (renTo N p k).ids q = z) := ⟨_, Lib.hid rfl⟩
      have z1' : W37.cell? ⟨b8, o8 + q, none⟩ = some (.int .i64 zv) := by rw [← HZV.out]; exact z1
      have HSE := Lib.hid (RN.setD (a := q) R37.out hb8 hb8' (by show q < (renTo N p k).ids.length; rw [HRL2.out]; exact hqdin) xd)
      clear z1
      refine anyU_ready (rs := [12]) (by kernel_rfl) (by simp) ?_
      refine ReadyU.cons (i := 12) rfl (fun K hK => ?_) ReadyU.nil
      simp only [List.getElem_toArray, List.getElem_cons_succ, List.getElem_cons_zero]
      refine ite_is (by rfl) ?_
      simp [go_sem, z1', z3]
      refine hK.out _ _ ⟨fun h => absurd h (by decide), ?_⟩
      clear hK K
      try simp only [List.getElem_toArray, List.getElem_cons_succ, List.getElem_cons_zero, Act.put, List.setIfInBounds_toArray, List.set_cons_zero, List.set_cons_succ]
      refine nameU ?_
      intro W39 HW39
      have hg39 : W37.grownBy W39 (some b8) := by rw [HW39.out]; exact grown_set _ ⟨b8, _, none⟩ _
      have hs39 := hg39.size
      have HF39 := Lib.hid (HF37.out.grown hg39 (fun g e => .inr (by cases e; omega)))
      have OUT39 := Lib.hid (BoxN.far OUT37.out hg39 (fun g e => by cases e; omega))
      have PC39 := Lib.hid (CellH.far PC37.out hg39 (fun g e => by cases e; show b8 ≠ bP; omega))
      have R39 := Lib.hid (show RN W39 WA.heap.size d1 d2 d3 i2 W39.heap.size gT (.slice (some ⟨gT, 0, none⟩) N.ends.length cE) (.slice (some ⟨b8, o8, none⟩) N.ids.length c8) (.slice (some ⟨b9, o9, none⟩) N.inputs.length c9) ⟨(renTo N p k).ends.set q (mapEnds p (nthL N.ends k)), (renTo N p k).ids.set q xd, (renTo N p k).inputs.set q x⟩ by rw [HW39.out]; exact HSE.out)
      clear HW39 z1' z3 HSE
      clear hS38
      refine anyU_done (by kernel_rfl) ?_ _
      go_wp2_with fail
      go_roundw
      case rel =>
        have HRR := R39.out
        refine ⟨k + 1, by omega, by go_num, OUT39, Lib.hid ?_, HF39⟩
        rw [show renTo N p (k + 1) = ⟨(renTo N p k).ends.set q (mapEnds p (nthL N.ends k)), (renTo N p k).ids.set q xd, (renTo N p k).inputs.set q x⟩ from by simp only [renTo, HQ.out, Int.toNat_natCast, HX.out, HXD.out]; rw [if_pos hid]]
        exact HRR
      case measure => simp [intOf]; omega

end Go.Proofs.YtmdlginjblnfoaaGreat
