/-
  Contracts: stable depth, twins, and whether no two nodes are twins (reference).
-/
import Derived.Test.YtjgmmmcmoaaiaaaEl3
namespace Go.Proofs.Ytjgmmmcmoaaiaaa
open Go.ChangeShapes Go.WideShapes Go.ChangeAt Go.RowKit
set_option linter.unusedVariables false

set_option maxHeartbeats 2000000 in
set_option maxRecDepth 100000 in
theorem viStable_any (v1 : Value) (N : NetD) (lo1 hi1 : Nat) (w : World) (h1 : Net w lo1 hi1 v1 N) (hh1 : hi1 ≤ w.heap.size) (hg : N.good = true) :
    Calls Try.prog 30 #[v1] w fun e w' => ∃ T, e = .returned (.int .i64 (T : Nat)) ∧ EndsAt N T ∧ T ≤ 40 ∧ Below w.heap.size w w' := by
  obtain ⟨n1, n40⟩ := good_n hg
  have HG := Lib.hid hg; clear hg
  have F1 := Lib.hid h1
  obtain ⟨A1, c1, A1', c1', A1'', c1'', rfl, hc1, hd1, _⟩ := h1.parts
  clear h1
  obtain ⟨WA, HWA⟩ : ∃ W, Hid (W = (w.alloc (.cells #[.slice A1 N.ends.length c1, .slice A1' N.ids.length c1', .slice A1'' N.inputs.length c1''] 31))) := ⟨_, Lib.hid rfl⟩
  have hbA : Below w.heap.size w WA := by rw [HWA.out]; exact ((Below.refl _ _).alloc (Nat.le_refl _) _)
  have hsA : w.heap.size + 1 ≤ WA.heap.size := by rw [HWA.out]; simp; try omega
  have bx1 : BoxN WA (w.heap.size) #[.slice A1 N.ends.length c1, .slice A1' N.ids.length c1', .slice A1'' N.inputs.length c1''] 31 := by rw [HWA.out]; exact (BoxN.new' _ _ _ (by simp))
  have G1 := Lib.hid (Net.below F1.out hbA hh1); clear F1
  go_enter Try.func30, Try.ntmps30
  go_upto_region 1 with (fail)
  rw [← HWA.out]; clear HWA
  have kbx1_0 : WA.cell? ⟨w.heap.size, 0, none⟩ = some (.slice A1 N.ends.length c1) := bx1.cell 0 (by simp)
  have kbx1_1 : WA.cell? ⟨w.heap.size, 1, none⟩ = some (.slice A1' N.ids.length c1') := bx1.cell 1 (by simp)
  have kbx1_2 : WA.cell? ⟨w.heap.size, 2, none⟩ = some (.slice A1'' N.inputs.length c1'') := bx1.cell 2 (by simp)
  go_wp2_with fail
  clear kbx1_0 kbx1_1 kbx1_2
  refine (viClasses_any _ N lo1 hi1 0 _ G1.out (by omega) HG.out (by omega)).mono ?_
  rintro e W1 ⟨r, rfl, hr, hb1⟩
  have hg1 := grown_below hb1; clear hb1
  have hs1 := hg1.size
  have HF1 := Lib.hid ((Turned.refl WA.heap.size WA.heap.size WA).still hg1)
  have C1 := Lib.hid hr; clear hr
  go_wp2_with fail
  go_loopw [4, 3] (fun i cv wr => ∃ (T : Nat), i = .int .i64 T ∧ Hid (IntS wr w.heap.size wr.heap.size cv (vat N T)) ∧ Hid (∀ s, s < T → cnt1 (vat N (s + 1)) ≠ cnt1 (vat N s)) ∧ WA.heap.size ≤ wr.heap.size ∧ Hid (Turned WA.heap.size WA.heap.size WA wr)) (fun i cv _ => N.ends.length + 1 - (intOf i).toNat)
  case atStart => exact ⟨0, rfl, Lib.hid (IntS.mono C1.out (by omega) (Nat.le_refl _)), Lib.hid fun s hs => absurd hs (by omega), by omega, HF1⟩
  case round =>
    clear HF1
    obtain ⟨T, rfl, HC, HN, hz, HF2⟩ := hrel
    have hs2 := HF2.out.size
    obtain ⟨wq, rfl⟩ : ∃ wq : World, wq = wr := ⟨_, rfl⟩
    have hcl := vat_climb HG.out T HN.out
    have hcm := vat_most HG.out T
    have hTn : T ≤ N.ends.length := by omega
    have hTi : IntKind.i64.wrap ((T : Int) + 1) = (T : Int) + 1 := IntWalk.i64_in _ (by omega)
    have hlT := vat_length N T
    have HCM := Lib.hid (vat_mem N T)
    have HDM := Lib.hid (vat_mem N (T + 1))
    have hlD := vat_length N (T + 1)
    obtain ⟨a, HA⟩ : ∃ a, Hid (cnt1 (vat N (T + 1)) = a) := ⟨_, Lib.hid rfl⟩
    obtain ⟨b, HB⟩ : ∃ b, Hid (cnt1 (vat N T) = b) := ⟨_, Lib.hid rfl⟩
    obtain ⟨dt, HDT⟩ : ∃ c, Hid (vat N (T + 1) = c) := ⟨_, Lib.hid rfl⟩
    obtain ⟨ct, HCT⟩ : ∃ c, Hid (vat N T = c) := ⟨_, Lib.hid rfl⟩
    have HNX := Lib.hid (show vstep N ct = dt by rw [← HDT.out, ← HCT.out]; rfl)
    have HA2 := Lib.hid (show cnt1 dt = a by rw [← HDT.out]; exact HA.out)
    have HB2 := Lib.hid (show cnt1 ct = b by rw [← HCT.out]; exact HB.out)
    rw [HCT.out] at HC hlT HCM hcl hcm
    rw [HDT.out] at hlD HDM
    have HLT := Lib.hid hlT
    have HLD := Lib.hid hlD
    clear hcl hcm hlT hlD
    obtain ⟨Ac, cc, rfl, hcc, hdc⟩ := HC.out.dims
    have kbx1_0 : wq.cell? ⟨w.heap.size, 0, none⟩ = some (.slice A1 N.ends.length c1) := (HF2.out.boxN bx1 (by omega)).cell 0 (by simp)
    have kbx1_1 : wq.cell? ⟨w.heap.size, 1, none⟩ = some (.slice A1' N.ids.length c1') := (HF2.out.boxN bx1 (by omega)).cell 1 (by simp)
    have kbx1_2 : wq.cell? ⟨w.heap.size, 2, none⟩ = some (.slice A1'' N.inputs.length c1'') := (HF2.out.boxN bx1 (by omega)).cell 2 (by simp)
    go_wp2_with fail
    clear kbx1_0 kbx1_1 kbx1_2
    refine (viStep_any _ N lo1 hi1 _ ct _ _ _ (Net.turned G1.out HF2.out (by omega) (by omega)) (by omega) HC.out (Nat.le_refl _) HG.out HLT.out).mono ?_
    rintro e W3 ⟨r, rfl, hr, hb3⟩
    have hg3 := grown_below hb3; clear hb3
    have hs3 := hg3.size
    have HF3 := Lib.hid (HF2.out.still hg3); clear HF2
    have C3 := Lib.hid (IntS.still HC.out hg3 (by omega)); clear HC
    have D3 := Lib.hid hr; clear hr
    rw [HNX.out] at D3
    obtain ⟨Ad, cd, rfl, hcd, hdd⟩ := D3.out.dims
    go_wp2_with fail
    refine (viMany_any _ dt _ _ _ D3.out (by omega) (by have := HLD.out; omega) (fun x hx => by have := HDM.out x hx; omega)).mono ?_
    rintro e W4 ⟨rfl, hb4⟩
    have hg4 := grown_below hb4; clear hb4
    have hs4 := hg4.size
    have HF4 := Lib.hid (HF3.out.still hg4); clear HF3
    have C4 := Lib.hid (IntS.still C3.out hg4 (by omega)); clear C3
    have D4 := Lib.hid (IntS.still D3.out hg4 (by omega)); clear D3
    rw [HA2.out]
    go_wp2_with fail
    refine (viMany_any _ ct _ _ _ C4.out (by omega) (by have := HLT.out; omega) (fun x hx => by have := HCM.out x hx; omega)).mono ?_
    rintro e W5 ⟨rfl, hb5⟩
    have hg5 := grown_below hb5; clear hb5
    have hs5 := hg5.size
    have HF5 := Lib.hid (HF4.out.still hg5); clear HF4
    have C5 := Lib.hid (IntS.still C4.out hg5 (by omega)); clear C4
    have D5 := Lib.hid (IntS.still D4.out hg5 (by omega)); clear D4
    rw [HB2.out]
    by_cases hab : a = b
    case pos =>
      have hab' : (a == b) = true := by simp [hab]
      have HAB := Lib.hid hab; clear hab
      go_wp2_with fail
      go_ret
      exact ⟨T, rfl, ⟨by rw [HA.out, HAB.out, HB.out], HN.out⟩, by omega, (HF5.out.below_of hbA (by omega) (by omega))⟩
    have hab' : (a == b) = false := by simpa using hab
    have HAB := Lib.hid hab; clear hab
    have HN2 := Lib.hid (show ∀ s, s < T + 1 → cnt1 (vat N (s + 1)) ≠ cnt1 (vat N s) from fun s hs => by
      by_cases e : s = T
      · rw [e, HA.out, HB.out]; exact HAB.out
      · exact HN.out s (by omega))
    have hcl2 := vat_climb HG.out (T + 1) HN2.out
    have hcm2 := vat_most HG.out (T + 1)
    have hTn2 : T + 1 ≤ N.ends.length := by omega
    clear hcl2 hcm2
    go_wp2_with fail
    go_roundw
    case rel => exact ⟨T + 1, by go_num, Lib.hid (by rw [HDT.out]; exact IntS.mono D5.out (by omega) (by omega)), HN2, by omega, HF5⟩
    case measure => simp [intOf]; omega

set_option maxHeartbeats 2000000 in
set_option maxRecDepth 100000 in
theorem viTwins_any (v1 : Value) (N : NetD) (lo1 hi1 : Nat) (w : World) (h1 : Net w lo1 hi1 v1 N) (hh1 : hi1 ≤ w.heap.size) (hg : N.good = true) :
    Calls Try.prog 14 #[v1] w fun e w' => ∃ r T, e = .returned r ∧ EndsAt N T ∧ IntS w' w.heap.size w'.heap.size r (vat N T) ∧ Below w.heap.size w w' := by
  obtain ⟨n1, n40⟩ := good_n hg
  have HG := Lib.hid hg; clear hg
  have F1 := Lib.hid h1
  obtain ⟨A1, c1, A1', c1', A1'', c1'', rfl, hc1, hd1, _⟩ := h1.parts
  clear h1
  obtain ⟨WA, HWA⟩ : ∃ W, Hid (W = (w.alloc (.cells #[.slice A1 N.ends.length c1, .slice A1' N.ids.length c1', .slice A1'' N.inputs.length c1''] 31))) := ⟨_, Lib.hid rfl⟩
  have hbA : Below w.heap.size w WA := by rw [HWA.out]; exact ((Below.refl _ _).alloc (Nat.le_refl _) _)
  have hsA : w.heap.size + 1 ≤ WA.heap.size := by rw [HWA.out]; simp; try omega
  have bx1 : BoxN WA (w.heap.size) #[.slice A1 N.ends.length c1, .slice A1' N.ids.length c1', .slice A1'' N.inputs.length c1''] 31 := by rw [HWA.out]; exact (BoxN.new' _ _ _ (by simp))
  have G1 := Lib.hid (Net.below F1.out hbA hh1); clear F1
  go_enter Try.func14, Try.ntmps14
  go_upto_region 1 with (fail)
  rw [← HWA.out]; clear HWA
  refine wp_region_U (fun w' => w'.cell? ⟨w.heap.size, 0, none⟩ = some (.slice A1 N.ends.length c1) ∧ w'.cell? ⟨w.heap.size, 1, none⟩ = some (.slice A1' N.ids.length c1') ∧ w'.cell? ⟨w.heap.size, 2, none⟩ = some (.slice A1'' N.inputs.length c1'')) [] (by kernel_rfl) ?_
  refine nameU ?_
  intro W1 HW1
  have hg1 : WA.grownBy W1 none := by rw [HW1.out]; exact grown_drew _
  clear HW1
  have hs1 := hg1.size
  have HF1 := Lib.hid ((Turned.refl WA.heap.size WA.heap.size WA).still hg1)
  have hS2 : W1.cell? ⟨w.heap.size, 0, none⟩ = some (.slice A1 N.ends.length c1) ∧ W1.cell? ⟨w.heap.size, 1, none⟩ = some (.slice A1' N.ids.length c1') ∧ W1.cell? ⟨w.heap.size, 2, none⟩ = some (.slice A1'' N.inputs.length c1'') := ⟨(HF1.out.boxN bx1 (by omega)).cell 0 (by simp), (HF1.out.boxN bx1 (by omega)).cell 1 (by simp), (HF1.out.boxN bx1 (by omega)).cell 2 (by simp)⟩
  refine anyU_take (i := 0) (v := .agg #[.slice A1 N.ends.length c1, .slice A1' N.ids.length c1', .slice A1'' N.inputs.length c1'']) rfl (by kernel_rfl) (by kernel_rfl) (by kernel_rfl) (fun _ _ _ h => h) ⟨by rfl, fun w' hS' => (by obtain ⟨s1, s2, s3⟩ := hS'; go_simp)⟩ hS2 ?_
  simp only [List.getElem_toArray, List.getElem_cons_zero, Act.put, List.setIfInBounds_toArray, List.set_cons_zero, List.set_cons_succ]
  refine anyU_take (i := 1) (v := .agg #[.slice A1 N.ends.length c1, .slice A1' N.ids.length c1', .slice A1'' N.inputs.length c1'']) rfl (by kernel_rfl) (by kernel_rfl) (by kernel_rfl) (fun _ _ _ h => h) ⟨by rfl, fun w' hS' => (by obtain ⟨s1, s2, s3⟩ := hS'; go_simp)⟩ hS2 ?_
  simp only [List.getElem_toArray, List.getElem_cons_succ, List.getElem_cons_zero, Act.put, List.setIfInBounds_toArray, List.set_cons_zero, List.set_cons_succ]
  refine anyU_ready (rs := [2]) (by kernel_rfl) (by simp) ?_
  refine ReadyU.cons (i := 2) rfl (fun K hK => ?_) ReadyU.nil
  simp only [List.getElem_toArray, List.getElem_cons_succ, List.getElem_cons_zero]
  refine ite_is (by rfl) ?_
  simp [go_sem]
  refine (viStable_any _ N lo1 hi1 _ (Net.turned G1.out HF1.out (by omega) (by omega)) (by omega) HG.out).mono ?_
  rintro e W3 ⟨T, rfl, hE, hT40, hb3⟩
  have hg3 := grown_below hb3; clear hb3
  have hs3 := hg3.size
  have HF3 := Lib.hid (HF1.out.still hg3); clear HF1
  have HE := Lib.hid hE; clear hE
  have hS4 : W3.cell? ⟨w.heap.size, 0, none⟩ = some (.slice A1 N.ends.length c1) ∧ W3.cell? ⟨w.heap.size, 1, none⟩ = some (.slice A1' N.ids.length c1') ∧ W3.cell? ⟨w.heap.size, 2, none⟩ = some (.slice A1'' N.inputs.length c1'') := ⟨(HF3.out.boxN bx1 (by omega)).cell 0 (by simp), (HF3.out.boxN bx1 (by omega)).cell 1 (by simp), (HF3.out.boxN bx1 (by omega)).cell 2 (by simp)⟩
  refine hK.out _ _ ⟨fun _ => hS4, ?_⟩
  clear hK K hS2
  try simp only [List.getElem_toArray, List.getElem_cons_succ, List.getElem_cons_zero, Act.put, List.setIfInBounds_toArray, List.set_cons_zero, List.set_cons_succ]
  refine anyU_ready (rs := [3]) (by kernel_rfl) (by simp) ?_
  refine ReadyU.cons (i := 3) rfl (fun K hK => ?_) ReadyU.nil
  simp only [List.getElem_toArray, List.getElem_cons_succ, List.getElem_cons_zero]
  refine ite_is (by rfl) ?_
  simp [go_sem]
  refine (viClasses_any _ N lo1 hi1 T _ (Net.turned G1.out HF3.out (by omega) (by omega)) (by omega) HG.out (by omega)).mono ?_
  rintro e W5 ⟨r, rfl, hr, hb5⟩
  have hg5 := grown_below hb5; clear hb5
  have hs5 := hg5.size
  have HF5 := Lib.hid (HF3.out.still hg5); clear HF3
  have C5 := Lib.hid hr; clear hr
  have hS6 : W5.cell? ⟨w.heap.size, 0, none⟩ = some (.slice A1 N.ends.length c1) ∧ W5.cell? ⟨w.heap.size, 1, none⟩ = some (.slice A1' N.ids.length c1') ∧ W5.cell? ⟨w.heap.size, 2, none⟩ = some (.slice A1'' N.inputs.length c1'') := ⟨(HF5.out.boxN bx1 (by omega)).cell 0 (by simp), (HF5.out.boxN bx1 (by omega)).cell 1 (by simp), (HF5.out.boxN bx1 (by omega)).cell 2 (by simp)⟩
  refine hK.out _ _ ⟨fun _ => hS6, ?_⟩
  clear hK K hS4
  try simp only [List.getElem_toArray, List.getElem_cons_succ, List.getElem_cons_zero, Act.put, List.setIfInBounds_toArray, List.set_cons_zero, List.set_cons_succ]
  refine anyU_ready (rs := [4]) (by kernel_rfl) (by simp) ?_
  refine ReadyU.cons (i := 4) rfl (fun K hK => ?_) ReadyU.nil
  simp only [List.getElem_toArray, List.getElem_cons_succ, List.getElem_cons_zero]
  refine ite_is (by rfl) ?_
  simp [go_sem]
  refine hK.out _ _ ⟨fun _ => hS6, ?_⟩
  clear hK K
  try simp only [List.getElem_toArray, List.getElem_cons_succ, List.getElem_cons_zero, Act.put, List.setIfInBounds_toArray, List.set_cons_zero, List.set_cons_succ]
  clear hS6
  refine anyU_done (by kernel_rfl) ?_ _
  go_wp2_with fail
  go_ret
  exact ⟨_, T, rfl, HE.out, IntS.mono C5.out (by omega) (by omega), (HF5.out.below_of hbA (by omega) (by omega))⟩

set_option maxHeartbeats 2000000 in
set_option maxRecDepth 100000 in
theorem IsElectable_spec (v1 : Value) (N : NetD) (lo1 hi1 : Nat) (w : World) (h1 : Net w lo1 hi1 v1 N) (hh1 : hi1 ≤ w.heap.size) (hz1 : N.sz ≤ 1048576) (ok1 : N.Ok) :
    Calls Try.prog 5 #[v1] w fun e w' => e = .returned (.tuple #[.bool (elB N), .bool (elOk N)]) ∧ Below w.heap.size w w' := by
  clear ok1
  have F1 := Lib.hid h1
  obtain ⟨A1, c1, A1', c1', A1'', c1'', rfl, hc1, hd1, _⟩ := h1.parts
  clear h1
  obtain ⟨WA, HWA⟩ : ∃ W, Hid (W = (w.alloc (.cells #[.slice A1 N.ends.length c1, .slice A1' N.ids.length c1', .slice A1'' N.inputs.length c1''] 31))) := ⟨_, Lib.hid rfl⟩
  have hbA : Below w.heap.size w WA := by rw [HWA.out]; exact ((Below.refl _ _).alloc (Nat.le_refl _) _)
  have hsA : w.heap.size + 1 ≤ WA.heap.size := by rw [HWA.out]; simp; try omega
  have bx1 : BoxN WA (w.heap.size) #[.slice A1 N.ends.length c1, .slice A1' N.ids.length c1', .slice A1'' N.inputs.length c1''] 31 := by rw [HWA.out]; exact (BoxN.new' _ _ _ (by simp))
  have G1 := Lib.hid (Net.below F1.out hbA hh1); clear F1
  go_enter Try.func5, Try.ntmps5
  go_upto_region 1 with (fail)
  rw [← HWA.out]; clear HWA
  have kbx1_0 : WA.cell? ⟨w.heap.size, 0, none⟩ = some (.slice A1 N.ends.length c1) := bx1.cell 0 (by simp)
  have kbx1_1 : WA.cell? ⟨w.heap.size, 1, none⟩ = some (.slice A1' N.ids.length c1') := bx1.cell 1 (by simp)
  have kbx1_2 : WA.cell? ⟨w.heap.size, 2, none⟩ = some (.slice A1'' N.inputs.length c1'') := bx1.cell 2 (by simp)
  go_wp2_with fail
  clear kbx1_0 kbx1_1 kbx1_2
  refine (neGood_any _ N lo1 hi1 _ G1.out (by omega) hz1).mono ?_
  rintro e W1 ⟨rfl, hb1⟩
  have hg1 := grown_below hb1; clear hb1
  have hs1 := hg1.size
  have HF1 := Lib.hid ((Turned.refl WA.heap.size WA.heap.size WA).still hg1)
  by_cases hg : N.good = true
  case neg =>
    have hg' : N.good = false := by simpa using hg
    rw [hg']
    have HG := Lib.hid hg'; clear hg hg'
    go_wp2_with fail
    go_ret2
    exact ⟨ret_bb (elNo (show elOk N = false by unfold elOk; rw [HG.out]; rfl)).symm (show elOk N = false by unfold elOk; rw [HG.out]; rfl).symm, (HF1.out.below_of hbA (by omega) (by omega))⟩
  rw [hg]
  have HG := Lib.hid hg; clear hg
  obtain ⟨n1, n40⟩ := good_n HG.out
  have kbx1_0 : W1.cell? ⟨w.heap.size, 0, none⟩ = some (.slice A1 N.ends.length c1) := (HF1.out.boxN bx1 (by omega)).cell 0 (by simp)
  have kbx1_1 : W1.cell? ⟨w.heap.size, 1, none⟩ = some (.slice A1' N.ids.length c1') := (HF1.out.boxN bx1 (by omega)).cell 1 (by simp)
  have kbx1_2 : W1.cell? ⟨w.heap.size, 2, none⟩ = some (.slice A1'' N.inputs.length c1'') := (HF1.out.boxN bx1 (by omega)).cell 2 (by simp)
  go_wp2_with fail
  clear kbx1_0 kbx1_1 kbx1_2
  refine (coConnected_any _ N lo1 hi1 _ (Net.turned G1.out HF1.out (by omega) (by omega)) (by omega) HG.out).mono ?_
  rintro e W2 ⟨rfl, hb2⟩
  have hg2 := grown_below hb2; clear hb2
  have hs2 := hg2.size
  have HF2 := Lib.hid (HF1.out.still hg2); clear HF1
  by_cases hc : conn N = true
  case neg =>
    have hc' : conn N = false := by simpa using hc
    rw [hc']
    have HC := Lib.hid hc'; clear hc hc'
    go_wp2_with fail
    go_ret2
    exact ⟨ret_bb (elNo (show elOk N = false by unfold elOk; rw [HG.out, HC.out]; rfl)).symm (show elOk N = false by unfold elOk; rw [HG.out, HC.out]; rfl).symm, (HF2.out.below_of hbA (by omega) (by omega))⟩
  rw [hc]
  have HC := Lib.hid hc; clear hc
  have HOK := Lib.hid (show elOk N = true by unfold elOk; rw [HG.out, HC.out]; rfl)
  go_wp2_with fail
  refine wp_region_U (fun w' => w'.cell? ⟨w.heap.size, 0, none⟩ = some (.slice A1 N.ends.length c1) ∧ w'.cell? ⟨w.heap.size, 1, none⟩ = some (.slice A1' N.ids.length c1') ∧ w'.cell? ⟨w.heap.size, 2, none⟩ = some (.slice A1'' N.inputs.length c1'')) [] (by kernel_rfl) ?_
  refine nameU ?_
  intro W3 HW3
  have hg3 : W2.grownBy W3 none := by rw [HW3.out]; exact grown_drew _
  clear HW3
  have hs3 := hg3.size
  have HF3 := Lib.hid (HF2.out.still hg3); clear HF2
  have hS4 : W3.cell? ⟨w.heap.size, 0, none⟩ = some (.slice A1 N.ends.length c1) ∧ W3.cell? ⟨w.heap.size, 1, none⟩ = some (.slice A1' N.ids.length c1') ∧ W3.cell? ⟨w.heap.size, 2, none⟩ = some (.slice A1'' N.inputs.length c1'') := ⟨(HF3.out.boxN bx1 (by omega)).cell 0 (by simp), (HF3.out.boxN bx1 (by omega)).cell 1 (by simp), (HF3.out.boxN bx1 (by omega)).cell 2 (by simp)⟩
  refine anyU_take (i := 0) (v := .agg #[.slice A1 N.ends.length c1, .slice A1' N.ids.length c1', .slice A1'' N.inputs.length c1'']) rfl (by kernel_rfl) (by kernel_rfl) (by kernel_rfl) (fun _ _ _ h => h) ⟨by rfl, fun w' hS' => (by obtain ⟨s1, s2, s3⟩ := hS'; go_simp)⟩ hS4 ?_
  simp only [List.getElem_toArray, List.getElem_cons_zero, Act.put, List.setIfInBounds_toArray, List.set_cons_zero, List.set_cons_succ]
  refine anyU_take (i := 3) (v := .pointer (some ⟨w.heap.size, 0, none⟩)) rfl (by kernel_rfl) (by kernel_rfl) (by kernel_rfl) (fun _ _ _ h => h) ⟨by rfl, fun w' hS' => (by obtain ⟨s1, s2, s3⟩ := hS'; go_simp)⟩ hS4 ?_
  simp only [List.getElem_toArray, List.getElem_cons_succ, List.getElem_cons_zero, Act.put, List.setIfInBounds_toArray, List.set_cons_zero, List.set_cons_succ]
  refine anyU_take (i := 4) (v := .slice A1 N.ends.length c1) rfl (by kernel_rfl) (by kernel_rfl) (by kernel_rfl) (fun _ _ _ h => h) ⟨by rfl, fun w' hS' => (by obtain ⟨s1, s2, s3⟩ := hS'; go_simp)⟩ hS4 ?_
  simp only [List.getElem_toArray, List.getElem_cons_succ, List.getElem_cons_zero, Act.put, List.setIfInBounds_toArray, List.set_cons_zero, List.set_cons_succ]
  refine anyU_take (i := 5) (v := .int .i64 N.ends.length) rfl (by kernel_rfl) (by kernel_rfl) (by kernel_rfl) (fun _ _ _ h => h) ⟨by rfl, fun w' hS' => (by obtain ⟨s1, s2, s3⟩ := hS'; go_simp)⟩ hS4 ?_
  simp only [List.getElem_toArray, List.getElem_cons_succ, List.getElem_cons_zero, Act.put, List.setIfInBounds_toArray, List.set_cons_zero, List.set_cons_succ]
  refine anyU_ready (rs := [1]) (by kernel_rfl) (by simp) ?_
  refine ReadyU.cons (i := 1) rfl (fun K hK => ?_) ReadyU.nil
  simp only [List.getElem_toArray, List.getElem_cons_succ, List.getElem_cons_zero]
  refine ite_is (by rfl) ?_
  simp [go_sem]
  refine (viTwins_any _ N lo1 hi1 _ (Net.turned G1.out HF3.out (by omega) (by omega)) (by omega) HG.out).mono ?_
  rintro e W5 ⟨r, T, rfl, hE, hr, hb5⟩
  have hg5 := grown_below hb5; clear hb5
  have hs5 := hg5.size
  have HF5 := Lib.hid (HF3.out.still hg5); clear HF3
  have HE := Lib.hid hE; clear hE
  have C5 := Lib.hid hr; clear hr
  have hS6 : W5.cell? ⟨w.heap.size, 0, none⟩ = some (.slice A1 N.ends.length c1) ∧ W5.cell? ⟨w.heap.size, 1, none⟩ = some (.slice A1' N.ids.length c1') ∧ W5.cell? ⟨w.heap.size, 2, none⟩ = some (.slice A1'' N.inputs.length c1'') := ⟨(HF5.out.boxN bx1 (by omega)).cell 0 (by simp), (HF5.out.boxN bx1 (by omega)).cell 1 (by simp), (HF5.out.boxN bx1 (by omega)).cell 2 (by simp)⟩
  refine hK.out _ _ ⟨fun _ => hS6, ?_⟩
  clear hK K hS4
  try simp only [List.getElem_toArray, List.getElem_cons_succ, List.getElem_cons_zero, Act.put, List.setIfInBounds_toArray, List.set_cons_zero, List.set_cons_succ]
  have HBQ := Lib.hid (elYes HOK.out HE.out)
  refine anyU_ready (rs := [2]) (by kernel_rfl) (by simp) ?_
  refine ReadyU.cons (i := 2) rfl (fun K hK => ?_) ReadyU.nil
  simp only [List.getElem_toArray, List.getElem_cons_succ, List.getElem_cons_zero]
  refine ite_is (by rfl) ?_
  simp [go_sem]
  refine (viMany_any _ (vat N T) _ _ _ C5.out (by omega) (by rw [vat_length]; omega) (fun x hx => by have := vat_mem N T x hx; omega)).mono ?_
  rintro e W7 ⟨rfl, hb7⟩
  have hg7 := grown_below hb7; clear hb7
  have hs7 := hg7.size
  have HF7 := Lib.hid (HF5.out.still hg7); clear HF5
  have C7 := Lib.hid (IntS.still C5.out hg7 (by omega)); clear C5
  have hS8 : W7.cell? ⟨w.heap.size, 0, none⟩ = some (.slice A1 N.ends.length c1) ∧ W7.cell? ⟨w.heap.size, 1, none⟩ = some (.slice A1' N.ids.length c1') ∧ W7.cell? ⟨w.heap.size, 2, none⟩ = some (.slice A1'' N.inputs.length c1'') := ⟨(HF7.out.boxN bx1 (by omega)).cell 0 (by simp), (HF7.out.boxN bx1 (by omega)).cell 1 (by simp), (HF7.out.boxN bx1 (by omega)).cell 2 (by simp)⟩
  refine hK.out _ _ ⟨fun _ => hS8, ?_⟩
  clear hK K hS6
  try simp only [List.getElem_toArray, List.getElem_cons_succ, List.getElem_cons_zero, Act.put, List.setIfInBounds_toArray, List.set_cons_zero, List.set_cons_succ]
  obtain ⟨a, HA⟩ : ∃ a, Hid (cnt1 (vat N T) = a) := ⟨_, Lib.hid rfl⟩
  rw [HA.out] at HBQ
  rw [HA.out]
  refine anyU_ready (rs := [6]) (by kernel_rfl) (by simp) ?_
  refine ReadyU.cons (i := 6) rfl (fun K hK => ?_) ReadyU.nil
  simp only [List.getElem_toArray, List.getElem_cons_succ, List.getElem_cons_zero]
  refine ite_is (by rfl) ?_
  simp [go_sem]
  refine hK.out _ _ ⟨fun _ => hS8, ?_⟩
  clear hK K
  try simp only [List.getElem_toArray, List.getElem_cons_succ, List.getElem_cons_zero, Act.put, List.setIfInBounds_toArray, List.set_cons_zero, List.set_cons_succ]
  refine anyU_ready (rs := [7]) (by kernel_rfl) (by simp) ?_
  refine ReadyU.cons (i := 7) rfl (fun K hK => ?_) ReadyU.nil
  simp only [List.getElem_toArray, List.getElem_cons_succ, List.getElem_cons_zero]
  refine ite_is (by rfl) ?_
  simp [go_sem]
  refine hK.out _ _ ⟨fun _ => hS8, ?_⟩
  clear hK K
  try simp only [List.getElem_toArray, List.getElem_cons_succ, List.getElem_cons_zero, Act.put, List.setIfInBounds_toArray, List.set_cons_zero, List.set_cons_succ]
  refine anyU_ready (rs := [8]) (by kernel_rfl) (by simp) ?_
  refine ReadyU.cons (i := 8) rfl (fun K hK => ?_) ReadyU.nil
  simp only [List.getElem_toArray, List.getElem_cons_succ, List.getElem_cons_zero]
  refine ite_is (by rfl) ?_
  simp [go_sem]
  refine hK.out _ _ ⟨fun _ => hS8, ?_⟩
  clear hK K
  try simp only [List.getElem_toArray, List.getElem_cons_succ, List.getElem_cons_zero, Act.put, List.setIfInBounds_toArray, List.set_cons_zero, List.set_cons_succ]
  clear hS8
  refine anyU_done (by kernel_rfl) ?_ _
  go_wp2_with fail
  go_ret2
  exact ⟨ret_bb (by rw [HBQ.out]; rfl) HOK.out.symm, (HF7.out.below_of hbA (by omega) (by omega))⟩

end Go.Proofs.Ytjgmmmcmoaaiaaa
