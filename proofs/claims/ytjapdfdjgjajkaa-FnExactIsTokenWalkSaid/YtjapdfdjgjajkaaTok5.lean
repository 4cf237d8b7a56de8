/-
  Contract: the reference's biWalk.
-/
import Derived.Test.YtjapdfdjgjajkaaTok4
import Derived.Deep.RegionHeld3
namespace Go.Proofs.Ytjapdfdjgjajkaa
open Go.ChangeShapes Go.WideShapes Go.ChangeAt Go.RowKit
set_option linter.unusedVariables false

theorem usedL_zero (N : NetD) : UsedL N (fun _ _ => false) (zeroP N) := by
  refine ⟨zeroP_length N, fun v hv => ?_⟩
  rw [nthL_zeroP hv]
  refine ⟨by simp [zeroRow, degAt], fun i hi => ?_⟩
  rw [show nth (zeroRow N v) i = 0 from nth_replicate _ _ hi]
  rfl
theorem metL_free (n : Nat) : MetL n (fun _ => false) (List.replicate n (-1)) := by
  refine ⟨by simp, fun j hj => ?_⟩
  rw [show nth (List.replicate n (-1 : Int)) j = -1 from nth_replicate _ _ hj]
  exact ⟨fun h => absurd h (by decide), fun h => by cases h⟩

set_option maxHeartbeats 8000000 in
set_option maxRecDepth 100000 in
theorem biWalk_any (v1 : Value) (N : NetD) (lo1 hi1 r : Nat) (w : World) (h1 : Net w lo1 hi1 v1 N) (hh1 : hi1 ≤ w.heap.size) (hg : N.good = true) (hr : r < N.ends.length) :
    Calls Try.prog 27 #[v1, .int .i64 (r : Nat)] w fun e w' => ∃ rv, e = .returned rv ∧ IntSSx w' w.heap.size w'.heap.size rv (walkOf N r) ∧ Below w.heap.size w w' := by
  obtain ⟨n1, n40⟩ := good_n hg
  have HG := Lib.hid hg; clear hg
  have F1 := Lib.hid h1
  obtain ⟨A1, c1, A1', c1', A1'', c1'', rfl, hc1, hd1, _⟩ := h1.parts
  clear h1
  obtain ⟨n, HN⟩ : ∃ n, Hid (N.ends.length = n) := ⟨_, Lib.hid rfl⟩
  obtain ⟨ve, vi, vn, ee, hE, _, _⟩ := F1.out
  have hEE : EndSS w lo1 hi1 (.slice A1 N.ends.length c1) N.ends := by injection ee with ee; injection ee with ee; injection ee with e1 _; rw [e1]; exact hE
  clear ee hE
  rw [HN.out] at hc1 n1 n40 hr hEE F1
  rw [HN.out]
  obtain ⟨b1, o1, A2, c2, rfl, hb, hrow, hr1, hr2, _⟩ := ESS.rowAt hEE (v := r) (by rw [HN.out]; exact hr)
  have HEE := Lib.hid hEE; clear hEE
  obtain ⟨d, HD⟩ : ∃ d, Hid ((nthL N.ends r).length = d) := ⟨_, Lib.hid rfl⟩
  rw [HD.out] at hrow hr1
  have HROW := Lib.hid hrow; clear hrow
  have hd6 : d ≤ 6 := by rw [← HD.out]; exact good_deg HG.out (by rw [HN.out]; exact hr)
  unfold maxLen at hr2
  go_enter Try.func27, Try.ntmps27
  go_upto_region 1 with fail
  refine nameC ?_
  intro WA HWA
  have hbA : Below w.heap.size w WA := by rw [HWA.out]; exact below_a1 _ _
  have hsA : w.heap.size + 1 ≤ WA.heap.size := by rw [HWA.out]; simp
  have bx1 : BoxN WA w.heap.size #[.slice (some ⟨b1, o1, none⟩) n c1, .slice A1' N.ids.length c1', .slice A1'' N.inputs.length c1''] 32 := by rw [HWA.out]; exact BoxN.new _ _ _
  clear HWA
  have G1 := Lib.hid (Net.below F1.out hbA hh1); clear F1
  have k0 : WA.cell? ⟨w.heap.size, 0, none⟩ = some (.slice (some ⟨b1, o1, none⟩) n c1) := bx1.cell 0 (by simp)
  have k1 : WA.cell? ⟨w.heap.size, 1, none⟩ = some (.slice A1' N.ids.length c1') := bx1.cell 1 (by simp)
  have k2 : WA.cell? ⟨w.heap.size, 2, none⟩ = some (.slice A1'' N.inputs.length c1'') := bx1.cell 2 (by simp)
  have hcall := fun (W : World) (hb : Below WA.heap.size WA W) => orZero_any _ N lo1 hi1 W (Net.below G1.out hb (by omega)) (by have := hb.size; omega) HG.out
  have HCALL := Lib.hid hcall; clear hcall
  go_wp2_with fail
  go_region_held3 (fun w' => w'.cell? ⟨w.heap.size, 0, none⟩ = some (.slice (some ⟨b1, o1, none⟩) n c1) ∧ w'.cell? ⟨w.heap.size, 1, none⟩ = some (.slice A1' N.ids.length c1') ∧ w'.cell? ⟨w.heap.size, 2, none⟩ = some (.slice A1'' N.inputs.length c1''))
    (first | exact ⟨k0, k1, k2⟩ | exact ⟨ka0, ka1, ka2⟩ | exact ⟨kb0, kb1, kb2⟩ | exact ⟨kc0 _, kc1 _, kc2 _⟩)
    (first | (go_at_call 45; refine (HCALL.out _ hbF).mono ?_; rintro e wZ ⟨rz, rfl, hrz, hbz⟩; obtain ⟨A3, c3, hr3, hc3a, hc3b⟩ := ISSx.dims hrz; rw [show (zeroP N).length = n by rw [zeroP_length, HN.out]] at hr3 hc3a; subst hr3; have hbZ := hbF.trans (hbz.mono hbF.size); have HRZ := Lib.hid hrz; have HRF2 := Lib.hid (IntS.below HRF.out hbz (Nat.le_refl _)); have hsZ := hbz.size; have kb0 := (hbZ.cell (p := ⟨w.heap.size, 0, none⟩) (by show w.heap.size < WA.heap.size; omega)).trans k0; have kb1 := (hbZ.cell (p := ⟨w.heap.size, 1, none⟩) (by show w.heap.size < WA.heap.size; omega)).trans k1; have kb2 := (hbZ.cell (p := ⟨w.heap.size, 2, none⟩) (by show w.heap.size < WA.heap.size; omega)).trans k2; have kc0 := fun o => (((hbZ).alloc (by have := hbZ.size; omega) o).cell (p := ⟨w.heap.size, 0, none⟩) (by show w.heap.size < WA.heap.size; omega)).trans k0; have kc1 := fun o => (((hbZ).alloc (by have := hbZ.size; omega) o).cell (p := ⟨w.heap.size, 1, none⟩) (by show w.heap.size < WA.heap.size; omega)).trans k1; have kc2 := fun o => (((hbZ).alloc (by have := hbZ.size; omega) o).cell (p := ⟨w.heap.size, 2, none⟩) (by show w.heap.size < WA.heap.size; omega)).trans k2) | (go_at_call 45; refine (HCALL.out _ (Below.refl _ _).drew).mono ?_; rintro e wZ ⟨rz, rfl, hrz, hbz⟩; obtain ⟨A3, c3, hr3, hc3a, hc3b⟩ := ISSx.dims hrz; rw [show (zeroP N).length = n by rw [zeroP_length, HN.out]] at hr3 hc3a; subst hr3; have hbZ : Below WA.heap.size WA wZ := (Below.refl _ _).drew.trans hbz; have HRZ := Lib.hid hrz; have ka0 := (hbZ.cell (p := ⟨w.heap.size, 0, none⟩) (by show w.heap.size < WA.heap.size; omega)).trans k0; have ka1 := (hbZ.cell (p := ⟨w.heap.size, 1, none⟩) (by show w.heap.size < WA.heap.size; omega)).trans k1; have ka2 := (hbZ.cell (p := ⟨w.heap.size, 2, none⟩) (by show w.heap.size < WA.heap.size; omega)).trans k2) | (go_at_call 46; refine (roFree_any n _ (by omega)).mono ?_; rintro e wF ⟨rf, rfl, hrf, hbf⟩; obtain ⟨A4, c4, hr4, hc4a, hc4b⟩ := IntS.dims hrf; rw [show (List.replicate n (-1 : Int)).length = n by simp] at hr4 hc4a; subst hr4; have hbF := hbZ.trans (hbf.mono hbZ.size); have HRF := Lib.hid hrf; have HRZ2 := Lib.hid (ISSx.below HRZ.out hbf (Nat.le_refl _)); have hsF := hbf.size; have kb0 := (hbF.cell (p := ⟨w.heap.size, 0, none⟩) (by show w.heap.size < WA.heap.size; omega)).trans k0; have kb1 := (hbF.cell (p := ⟨w.heap.size, 1, none⟩) (by show w.heap.size < WA.heap.size; omega)).trans k1; have kb2 := (hbF.cell (p := ⟨w.heap.size, 2, none⟩) (by show w.heap.size < WA.heap.size; omega)).trans k2; have kc0 := fun o => (((hbF).alloc (by have := hbF.size; omega) o).cell (p := ⟨w.heap.size, 0, none⟩) (by show w.heap.size < WA.heap.size; omega)).trans k0; have kc1 := fun o => (((hbF).alloc (by have := hbF.size; omega) o).cell (p := ⟨w.heap.size, 1, none⟩) (by show w.heap.size < WA.heap.size; omega)).trans k1; have kc2 := fun o => (((hbF).alloc (by have := hbF.size; omega) o).cell (p := ⟨w.heap.size, 2, none⟩) (by show w.heap.size < WA.heap.size; omega)).trans k2) | (go_at_call 46; refine (roFree_any n _ (by omega)).mono ?_; rintro e wF ⟨rf, rfl, hrf, hbf⟩; obtain ⟨A4, c4, hr4, hc4a, hc4b⟩ := IntS.dims hrf; rw [show (List.replicate n (-1 : Int)).length = n by simp] at hr4 hc4a; subst hr4; have hbF : Below WA.heap.size WA wF := (Below.refl _ _).drew.trans hbf; have HRF := Lib.hid hrf; have ka0 := (hbF.cell (p := ⟨w.heap.size, 0, none⟩) (by show w.heap.size < WA.heap.size; omega)).trans k0; have ka1 := (hbF.cell (p := ⟨w.heap.size, 1, none⟩) (by show w.heap.size < WA.heap.size; omega)).trans k1; have ka2 := (hbF.cell (p := ⟨w.heap.size, 2, none⟩) (by show w.heap.size < WA.heap.size; omega)).trans k2))
  · rename_i hheld
    clear hheld
    have hU0 := HRZ2.out
    have hF0 := HRF.out
    have hl3 : (zeroP N).length = n := by rw [zeroP_length, HN.out]
    have hl4 : (List.replicate n (-1 : Int)).length = n := by simp
    obtain ⟨b3, o3, rfl⟩ : ∃ b o, A3 = some ⟨b, o, none⟩ := by
      obtain ⟨vs, ⟨A', c', e, h1, h2, h3⟩, _⟩ := hU0
      rw [hl3] at e h3
      injection e with e _ _
      subst e
      obtain ⟨b, o, e2, _⟩ := h3 (by omega)
      exact ⟨b, o, e2⟩
    obtain ⟨b4, o4, rfl, _⟩ := IntS.opened hF0 (j := r) (by rw [hl4]; exact hr)
    have HU0 := Lib.hid hU0; have HF0 := Lib.hid hF0
    have hsz := hbF.size
    have hszz := hbZ.size
    have hszf := hbF.size
    clear hU0 hF0 hl3 hl4
    go_upto_region 2 with fail
    refine nameC ?_
    intro W1 HW1
    obtain ⟨g, HGG⟩ : ∃ g, Hid (wF.heap.size = g) := ⟨_, Lib.hid rfl⟩
    rw [HGG.out]
    have hg1 : wF.grownBy W1 none := by rw [HW1.out]; exact grown_alloc _ _
    have hs1 : g + 1 ≤ W1.heap.size := by rw [HW1.out, ← HGG.out]; simp
    have hbox : BoxN W1 g #[.slice (some ⟨b1, o1, none⟩) n c1, .slice A1' N.ids.length c1', .slice A1'' N.inputs.length c1'', .slice (some ⟨b3, o3, none⟩) n c3, .slice (some ⟨b4, o4, none⟩) n c4, .slice none 0 0] 72 := by rw [HW1.out]; exact BoxN.new' _ _ _ HGG.out
    have hggz : wF.heap.size ≤ g := Nat.le_of_eq HGG.out
    have hgg2 : g ≤ wF.heap.size := Nat.le_of_eq HGG.out.symm
    clear HW1
    have hLY : LayS w.heap.size (g + 1) g WA.heap.size wZ.heap.size wZ.heap.size wF.heap.size := ⟨by omega, by omega, by omega, by omega, by omega, by omega, by omega, by omega, by omega, by omega, by omega⟩
    have HLY := Lib.hid hLY; clear hLY
    have hT1 : TokS W1 N w.heap.size (g + 1) g WA.heap.size wZ.heap.size wZ.heap.size wF.heap.size n (.slice (some ⟨b1, o1, none⟩) n c1) (.slice A1' N.ids.length c1') (.slice A1'' N.inputs.length c1'') (.slice (some ⟨b3, o3, none⟩) n c3) (.slice (some ⟨b4, o4, none⟩) n c4) tk0 (.slice none 0 0) :=
      ⟨hbox, ⟨_, usedL_zero N, ISSx.still HU0.out hg1 (by omega)⟩, ⟨_, metL_free n, HF0.out.still hg1 (by omega)⟩, _, OwnSS.nil W1 (g + 1) (g + 1) _ (Nat.le_refl _) hs1⟩
    have HT1 := Lib.hid hT1
    have HB1 := Lib.hid (show Below WA.heap.size WA W1 from hbF.trans ⟨hg1.os, hg1.tape, hg1.output, hg1.size, fun k hk => hg1.block k (by omega) (by simp)⟩)
    clear hbox hT1 hg1
    refine wp_region_U (fun w' => w'.cell? ⟨g, 4, none⟩ = some (.slice (some ⟨b4, o4, none⟩) n c4) ∧ w'.cell? ⟨w.heap.size, 0, none⟩ = some (.slice (some ⟨b1, o1, none⟩) n c1) ∧ w'.cell? ⟨b1, o1 + r, none⟩ = some (.slice A2 d c2)) [12] (by kernel_rfl) ?_
    refine nameU ?_
    intro V HV
    have hgV : W1.grownBy V none := by rw [HV.out]; exact grown_drew _
    have hzV := hgV.size
    clear HV
    have hTV := HT1.out.still HLY.out hs1 hgV
    have hBV : Below WA.heap.size WA V := HB1.out.trans ⟨hgV.os, hgV.tape, hgV.output, hgV.size, fun k hk => hgV.block k (by have := HB1.out.size; omega) (by simp)⟩
    have hbV := hbA.trans (hBV.mono (by omega))
    obtain ⟨z, l1, l2, l3, l4, l5, l6⟩ := hTV.firstAt HLY.out (by omega) hr
    have hS : V.cell? ⟨g, 4, none⟩ = some (.slice (some ⟨b4, o4, none⟩) n c4) ∧ V.cell? ⟨w.heap.size, 0, none⟩ = some (.slice (some ⟨b1, o1, none⟩) n c1) ∧ V.cell? ⟨b1, o1 + r, none⟩ = some (.slice A2 d c2) := ⟨hTV.box.cell 4 (by simp), (hBV.cell (p := ⟨w.heap.size, 0, none⟩) (by show w.heap.size < WA.heap.size; omega)).trans k0, (hbV.cell (p := ⟨b1, o1 + r, none⟩) (by show b1 < w.heap.size; omega)).trans HROW.out⟩
    refine anyU_take (i := 0) (v := .pointer (some ⟨g, 0, none⟩)) rfl (by kernel_rfl) (by kernel_rfl) (by kernel_rfl) (fun _ _ _ h => h) ⟨by rfl, fun w' hS' => (by obtain ⟨s1, s2, s3⟩ := hS'; go_simp)⟩ hS ?_
    simp only [List.getElem_toArray, List.getElem_cons_zero, Act.put, List.setIfInBounds_toArray, List.set_cons_zero, List.set_cons_succ]
    refine anyU_take (i := 1) (v := .pointer (some ⟨g, 0, none⟩)) rfl (by kernel_rfl) (by kernel_rfl) (by kernel_rfl) (fun _ _ _ h => h) ⟨by rfl, fun w' hS' => (by obtain ⟨s1, s2, s3⟩ := hS'; go_simp)⟩ hS ?_
    simp only [List.getElem_toArray, List.getElem_cons_succ, List.getElem_cons_zero, Act.put, List.setIfInBounds_toArray, List.set_cons_zero, List.set_cons_succ]
    refine anyU_take (i := 2) (v := .pointer (some ⟨g, 4, none⟩)) rfl (by kernel_rfl) (by kernel_rfl) (by kernel_rfl) (fun _ _ _ h => h) ⟨by rfl, fun w' hS' => (by obtain ⟨s1, s2, s3⟩ := hS'; go_simp)⟩ hS ?_
    simp only [List.getElem_toArray, List.getElem_cons_succ, List.getElem_cons_zero, Act.put, List.setIfInBounds_toArray, List.set_cons_zero, List.set_cons_succ]
    refine anyU_take (i := 3) (v := .slice (some ⟨b4, o4, none⟩) n c4) rfl (by kernel_rfl) (by kernel_rfl) (by kernel_rfl) (fun _ _ _ h => h) ⟨by rfl, fun w' hS' => (by obtain ⟨s1, s2, s3⟩ := hS'; go_simp)⟩ hS ?_
    simp only [List.getElem_toArray, List.getElem_cons_succ, List.getElem_cons_zero, Act.put, List.setIfInBounds_toArray, List.set_cons_zero, List.set_cons_succ]
    refine anyU_take (i := 4) (v := .int .i64 r) rfl (by kernel_rfl) (by kernel_rfl) (by kernel_rfl) (fun _ _ _ h => h) ⟨by rfl, fun w' hS' => (by obtain ⟨s1, s2, s3⟩ := hS'; go_simp)⟩ hS ?_
    simp only [List.getElem_toArray, List.getElem_cons_succ, List.getElem_cons_zero, Act.put, List.setIfInBounds_toArray, List.set_cons_zero, List.set_cons_succ]
    refine anyU_take (i := 5) (v := .pointer (some ⟨w.heap.size, 0, none⟩)) rfl (by kernel_rfl) (by kernel_rfl) (by kernel_rfl) (fun _ _ _ h => h) ⟨by rfl, fun w' hS' => (by obtain ⟨s1, s2, s3⟩ := hS'; go_simp)⟩ hS ?_
    simp only [List.getElem_toArray, List.getElem_cons_succ, List.getElem_cons_zero, Act.put, List.setIfInBounds_toArray, List.set_cons_zero, List.set_cons_succ]
    refine anyU_take (i := 6) (v := .slice (some ⟨b1, o1, none⟩) n c1) rfl (by kernel_rfl) (by kernel_rfl) (by kernel_rfl) (fun _ _ _ h => h) ⟨by rfl, fun w' hS' => (by obtain ⟨s1, s2, s3⟩ := hS'; go_simp)⟩ hS ?_
    simp only [List.getElem_toArray, List.getElem_cons_succ, List.getElem_cons_zero, Act.put, List.setIfInBounds_toArray, List.set_cons_zero, List.set_cons_succ]
    refine anyU_take (i := 7) (v := .int .i64 r) rfl (by kernel_rfl) (by kernel_rfl) (by kernel_rfl) (fun _ _ _ h => h) ⟨by rfl, fun w' hS' => (by obtain ⟨s1, s2, s3⟩ := hS'; go_simp)⟩ hS ?_
    simp only [List.getElem_toArray, List.getElem_cons_succ, List.getElem_cons_zero, Act.put, List.setIfInBounds_toArray, List.set_cons_zero, List.set_cons_succ]
    refine anyU_take (i := 8) (v := .pointer (some ⟨b1, o1 + r, none⟩)) rfl (by kernel_rfl) (by kernel_rfl) (by kernel_rfl) (fun _ _ _ h => h) ⟨by rfl, fun w' hS' => (by obtain ⟨s1, s2, s3⟩ := hS'; go_simp)⟩ hS ?_
    simp only [List.getElem_toArray, List.getElem_cons_succ, List.getElem_cons_zero, Act.put, List.setIfInBounds_toArray, List.set_cons_zero, List.set_cons_succ]
    refine anyU_take (i := 9) (v := .slice A2 d c2) rfl (by kernel_rfl) (by kernel_rfl) (by kernel_rfl) (fun _ _ _ h => h) ⟨by rfl, fun w' hS' => (by obtain ⟨s1, s2, s3⟩ := hS'; go_simp)⟩ hS ?_
    simp only [List.getElem_toArray, List.getElem_cons_succ, List.getElem_cons_zero, Act.put, List.setIfInBounds_toArray, List.set_cons_zero, List.set_cons_succ]
    refine anyU_take (i := 10) (v := .int .i64 d) rfl (by kernel_rfl) (by kernel_rfl) (by kernel_rfl) (fun _ _ _ h => h) ⟨by rfl, fun w' hS' => (by obtain ⟨s1, s2, s3⟩ := hS'; go_simp)⟩ hS ?_
    simp only [List.getElem_toArray, List.getElem_cons_succ, List.getElem_cons_zero, Act.put, List.setIfInBounds_toArray, List.set_cons_zero, List.set_cons_succ]
    refine anyU_take (i := 11) (v := .pointer (some ⟨b4, o4 + r, none⟩)) rfl (by kernel_rfl) (by kernel_rfl) (by kernel_rfl) (fun _ _ _ h => h) ⟨by rfl, fun w' hS' => (by obtain ⟨s1, s2, s3⟩ := hS'; go_simp)⟩ hS ?_
    simp only [List.getElem_toArray, List.getElem_cons_succ, List.getElem_cons_zero, Act.put, List.setIfInBounds_toArray, List.set_cons_zero, List.set_cons_succ]
    refine anyU_ready (rs := [12]) (by kernel_rfl) (by simp) ?_
    refine ReadyU.cons (i := 12) rfl (fun K hK => ?_) ReadyU.nil
    simp only [List.getElem_toArray, List.getElem_cons_succ, List.getElem_cons_zero]
    refine ite_is (by rfl) ?_
    simp [go_sem, l2, l1]
    refine hK.out _ _ ⟨fun h => absurd h (by decide), ?_⟩
    clear hK K
    try simp only [List.getElem_toArray, List.getElem_cons_succ, List.getElem_cons_zero, Act.put, List.setIfInBounds_toArray, List.set_cons_zero, List.set_cons_succ]
    refine nameU ?_
    intro W2 HW2
    refine anyU_done (by kernel_rfl) ?_ _
    have hg2 : V.grownBy W2 (some b4) := by rw [HW2.out]; exact grown_set _ ⟨b4, o4 + r, none⟩ _
    have hs2 := hg2.size
    have HT2 := Lib.hid (show TokS W2 N w.heap.size (g + 1) g WA.heap.size wZ.heap.size wZ.heap.size wF.heap.size n (.slice (some ⟨b1, o1, none⟩) n c1) (.slice A1' N.ids.length c1') (.slice A1'' N.inputs.length c1'') (.slice (some ⟨b3, o3, none⟩) n c3) (.slice (some ⟨b4, o4, none⟩) n c4) (tin r tk0) (.slice none 0 0) by rw [HW2.out]; exact l6 d (by omega))
    have HB2 := Lib.hid (show Below w.heap.size w W2 from hbV.trans ⟨hg2.os, hg2.tape, hg2.output, hg2.size, fun k hk => hg2.block k (by omega) (fun e => by injection e; omega)⟩)
    clear HW2 hS l1 l2 l3 l6 hTV hg2 hgV HT1 k0 k1 k2
    have HVC := Lib.hid (svisit_any N HG.out w lo1 hi1 n HN _ c1 b3 o3 c3 b4 o4 c4 ⟨hc3a, hc3b⟩ ⟨hc4a, hc4b⟩ _ _ w.heap.size (g + 1) g WA.heap.size wZ.heap.size wZ.heap.size wF.heap.size HLY.out HEE.out hh1 (Nat.le_refl _) n r tk0 _ W2 hr rfl (unm_le _ _) (by have := free_le tk0.used; show 0 + 2 * free tk0.used ≤ 480; omega) HT2.out (by omega) HB2.out)
    clear HT2
    go_upto_region 4 with (go_at_call 47; refine HVC.out.mono ?_; rintro e W3 ⟨rfl, vm, hT, hF⟩; have HT := Lib.hid hT; have HF := Lib.hid hF; have c5 : W3.cell? ⟨g, 5, none⟩ = some vm := hT.box.cell 5 (by simp); clear hT hF)
    go_wp2_with fail
    go_ret
    obtain ⟨top, hm⟩ := HT.out.mvs
    have hF := HF.out
    refine ⟨vm, rfl, ?_, HB2.out.trans (hF.below (fun k e => by cases e) (Nat.le_refl _) (by omega))⟩
    have := ISSx.mono hm.ssx (lo' := w.heap.size) (hi' := W3.heap.size) (by omega) (Nat.le_refl _)
    unfold walkOf
    rw [HN.out]
    exact this

end Go.Proofs.Ytjapdfdjgjajkaa
