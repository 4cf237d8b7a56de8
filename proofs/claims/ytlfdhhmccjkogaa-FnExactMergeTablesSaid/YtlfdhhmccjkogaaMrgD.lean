/-
  Contracts: the program's madeTable and MergeTables.
-/
import Derived.Test.YtlfdhhmccjkogaaMrgB
import Derived.Test.YtlfdhhmccjkogaaMrgS
namespace Go.Proofs.Ytlfdhhmccjkogaa
open Go.ChangeShapes Go.WideShapes Go.ChangeAt Go.RowKit
set_option linter.unusedVariables false

theorem tabZ_in (w : World) (lo hi : Nat) : Tab w lo hi (.agg #[.int .i64 0, .slice none 0 0]) tabZ := ⟨none, 0, rfl, RowS.nil _ _ _⟩

set_option maxHeartbeats 2000000 in
set_option maxRecDepth 100000 in
theorem madeTable_any (d : Int) (v : Value) (L : List Rw) (lo hi : Nat) (w : World) (h : RowS w lo hi v L) (hh : hi ≤ w.heap.size) (hn : L.length ≤ 1000000) :
    Calls Try.prog 17 #[.int .i64 d, v] w fun e w' => ∃ rv, e = .returned (.tuple #[rv, .bool (ifTab ⟨d, cUp (srtR L) L.length⟩).2]) ∧ Tab w' w.heap.size w'.heap.size rv (ifTab ⟨d, cUp (srtR L) L.length⟩).1 ∧ Below w.heap.size w w' := by
  have F1 := Lib.hid h
  obtain ⟨A, c, rfl⟩ := h.shape
  clear h
  have HL := Lib.hid (srtR_length L)
  obtain ⟨n, HN⟩ : ∃ n, Hid (L.length = n) := ⟨_, Lib.hid rfl⟩
  obtain ⟨M, HM⟩ : ∃ M, Hid (cUp (srtR L) L.length = M) := ⟨_, Lib.hid rfl⟩
  have hMn : M.length ≤ n := by rw [← HM.out, ← HN.out]; exact cUp_len _ _
  rw [HM.out]
  rw [HN.out] at HM
  rw [HN.out] at F1 hn ⊢
  obtain ⟨R, HR⟩ : ∃ R, Hid (ifTab ⟨d, M⟩ = R) := ⟨_, Lib.hid rfl⟩
  rw [HR.out]
  go_enter Try.func17, Try.ntmps17
  go_upto_region 1 with fail
  refine nameC ?_
  intro W HW
  have HBX := Lib.hid (show BoxN W w.heap.size #[.int .i64 0, .slice none 0 0] 28 by rw [HW.out]; exact BoxN.new _ _ _)
  have hbW : Below w.heap.size w W := by rw [HW.out]; exact (Below.refl _ _).alloc (Nat.le_refl _) _
  have hsW : w.heap.size + 1 ≤ W.heap.size := by rw [HW.out]; simp
  have FW := Lib.hid (F1.out.below hbW hh)
  have HBW := Lib.hid hbW
  clear HW hbW
  go_upto_region 4 with (first
    | (go_at_call 29; refine (cloneR_any _ L lo hi W FW.out (by omega) (by rw [HN.out]; exact hn)).mono ?_; rintro e w1 ⟨r1, rfl, hr1, hb1⟩; have R1 := Lib.hid hr1; have H1 := Lib.hid hb1; have hs1 := hb1.size; clear hr1 hb1)
    | (go_at_call 30; refine (sortRows_any _ L _ _ w1 R1.out (Nat.le_refl _) (by rw [HN.out]; exact hn)).mono ?_; rintro e w2 ⟨rfl, hr2, hg2⟩; have R2 := Lib.hid hr2; have H2 := Lib.hid (below_row H1.out R1.out rfl hg2); have hs2 := H2.out.size; have hs12 := hg2.size; clear hr2 hg2)
    | (go_at_call 35; refine (compactR_any _ (srtR L) _ _ w2 R2.out hs12 (by rw [HL.out, HN.out]; exact hn)).mono ?_; rw [HL.out, HN.out, HM.out]; rintro e w3 ⟨r3, rfl, hr3, hg3⟩; have R3 := Lib.hid hr3; have H3 := Lib.hid (below_row H2.out (R2.out.mono (Nat.le_refl _) hs12) (HL.out.trans HN.out) hg3); have hs3 := H3.out.size; have hs23 := hg3.size; obtain ⟨A3, c3, rfl⟩ := R3.out.shape; clear hr3 hg3))
  refine nameC ?_
  intro V HV
  have HB6 := Lib.hid (show BoxN V w3.heap.size #[.int .i64 d, .slice A3 M.length c3] 28 by rw [HV.out]; exact BoxN.new w3 _ _)
  have hbV : Below w3.heap.size w3 V := by rw [HV.out]; exact below_a1 w3 _
  have hsV : w3.heap.size + 1 ≤ V.heap.size := by rw [HV.out]; simp
  clear HV
  have k0 : V.cell? ⟨w3.heap.size, 0, none⟩ = some (.int .i64 d) := HB6.out.cell 0 (by simp)
  have k1 : V.cell? ⟨w3.heap.size, 1, none⟩ = some (.slice A3 M.length c3) := HB6.out.cell 1 (by simp)
  have HT := Lib.hid (show Tab V W.heap.size w1.heap.size (.agg #[.int .i64 d, .slice A3 M.length c3]) ⟨d, M⟩ from ⟨A3, c3, rfl, R3.out.below hbV (by omega)⟩)
  have HBV := Lib.hid (H3.out.trans (hbV.mono (by omega)))
  clear hbV
  cases hg : tabGood ⟨d, M⟩ with
  | false =>
    have HR2 := Lib.hid (show R = (tabZ, false) by rw [← HR.out]; unfold ifTab; rw [hg]; rfl)
    obtain rfl := HR2.out
    go_upto_region 5 with (go_at_call 16; refine (isTable_any _ ⟨d, M⟩ _ _ V HT.out (by omega)).mono ?_; rw [hg]; rintro e w4 ⟨rfl, hb4⟩; have H4 := Lib.hid hb4; have hs4 := hb4.size; clear hb4)
    have B4 := (HBX.out.below HBV.out (by omega)).below H4.out (by omega)
    have k40 := B4.cell 0 (by simp)
    have k41 := B4.cell 1 (by simp)
    have kf := B4.frozen
    go_wp2_with fail
    (try simp only [Exit.inBlock, Exit.then])
    refine bodyPost_ret (results_tab rfl _ _ _ _ _ rfl (box_store B4)) rfl ?_
    exact ⟨_, rfl, tabZ_in _ _ _, below_store (HBW.out.trans ((HBV.out.trans (H4.out.mono (by omega))).mono (by omega))) (Nat.le_refl _)⟩
  | true =>
    have HR2 := Lib.hid (show R = (⟨d, M⟩, true) by rw [← HR.out]; unfold ifTab; rw [hg]; rfl)
    obtain rfl := HR2.out
    go_upto_region 6 with (go_at_call 16; refine (isTable_any _ ⟨d, M⟩ _ _ V HT.out (by omega)).mono ?_; rw [hg]; rintro e w4 ⟨rfl, hb4⟩; have H4 := Lib.hid hb4; have hs4 := hb4.size; clear hb4)
    have B4 := (HBX.out.below HBV.out (by omega)).below H4.out (by omega)
    have B6 := HB6.out.below H4.out (by omega)
    clear k0 k1
    have k60 := B6.cell 0 (by simp)
    have k61 := B6.cell 1 (by simp)
    have k40 := B4.cell 0 (by simp)
    have k41 := B4.cell 1 (by simp)
    have kf := B4.frozen
    go_wp2_with fail
    (try simp only [Exit.inBlock, Exit.then])
    refine bodyPost_ret (results_tab rfl _ _ _ _ _ rfl (box_store B4)) rfl ?_
    refine ⟨_, rfl, ⟨A3, c3, rfl, ?_⟩, below_store (HBW.out.trans ((HBV.out.trans (H4.out.mono (by omega))).mono (by omega))) (Nat.le_refl _)⟩
    obtain ⟨_, _, e, hr⟩ := HT.out
    injection e with e; injection e with e; injection e with _ e; injection e with e; injection e with e1 _ e3
    subst e1 e3
    exact ((((hr.below H4.out (by omega)).setCell (.inl (by show w.heap.size < W.heap.size; omega)) _).setCell (.inl (by show w.heap.size < W.heap.size; omega)) _)).mono (by omega) (by simp; omega)
theorem tab_small {T : TabD} (h : tabGood T = true) : T.rows.length ≤ 60 := by
  unfold tabGood at h
  simp only [Bool.and_eq_true, decide_eq_true_eq] at h
  exact h.1.2
set_option maxHeartbeats 4000000 in
set_option maxRecDepth 100000 in
theorem MergeTables_impl0 (v1 : Value) (a : TabD) (lo1 hi1 : Nat) (v2 : Value) (b : TabD) (lo2 hi2 : Nat) (w : World) (h1 : Tab w lo1 hi1 v1 a) (hh1 : hi1 ≤ w.heap.size) (h2 : Tab w lo2 hi2 v2 b) (hh2 : hi2 ≤ w.heap.size) :
    Calls Try.prog 7 #[v1, v2] w fun e w' => ∃ rv, e = .returned (.tuple #[rv, .bool (mergeI a b).2]) ∧ Tab w' w.heap.size w'.heap.size rv (mergeI a b).1 ∧ Below w.heap.size w w' := by
  have F1 := Lib.hid h1
  have F2 := Lib.hid h2
  obtain ⟨A1, c1, rfl, hr1⟩ := h1
  obtain ⟨A2, c2, rfl, hr2⟩ := h2
  have G1 := Lib.hid hr1
  have G2 := Lib.hid hr2
  clear hr1 hr2
  obtain ⟨R, HR⟩ : ∃ R, Hid (mergeI a b = R) := ⟨_, Lib.hid rfl⟩
  obtain ⟨n1, HN1⟩ : ∃ n, Hid (a.rows.length = n) := ⟨_, Lib.hid rfl⟩
  obtain ⟨n2, HN2⟩ : ∃ n, Hid (b.rows.length = n) := ⟨_, Lib.hid rfl⟩
  obtain ⟨d1, HD1⟩ : ∃ n, Hid (a.depth = n) := ⟨_, Lib.hid rfl⟩
  obtain ⟨d2, HD2⟩ : ∃ n, Hid (b.depth = n) := ⟨_, Lib.hid rfl⟩
  rw [HR.out]
  rw [HN1.out, HD1.out] at F1
  rw [HN2.out, HD2.out] at F2
  rw [HN1.out] at G1
  rw [HN2.out] at G2
  rw [HN1.out, HN2.out, HD1.out, HD2.out]
  go_enter Try.func7, Try.ntmps7
  go_upto_region 1 with fail
  refine nameC ?_
  intro W HW
  have HB2 := Lib.hid (show BoxN W w.heap.size #[.int .i64 d1, .slice A1 n1 c1] 28 by rw [HW.out]; exact ((BoxN.new w _ _).still (grown_alloc _ _)).still (grown_alloc _ _))
  have HB3 := Lib.hid (show BoxN W (w.heap.size + 1) #[.int .i64 d2, .slice A2 n2 c2] 28 by rw [HW.out]; exact (BoxN.new' _ _ _ (by simp)).still (grown_alloc _ _))
  have HB4 := Lib.hid (show BoxN W (w.heap.size + 1 + 1) #[.int .i64 0, .slice none 0 0] 28 by rw [HW.out]; exact BoxN.new' _ _ _ (by simp))
  have HBW := Lib.hid (show Below w.heap.size w W by rw [HW.out]; exact below_a3 _ _ _ _)
  have hsW : w.heap.size + 3 ≤ W.heap.size := by rw [HW.out]; simp
  have HT1 := Lib.hid (F1.out.below HBW.out hh1)
  have HT2 := Lib.hid (F2.out.below HBW.out hh2)
  have HG1 := Lib.hid (G1.out.below HBW.out hh1)
  have HG2 := Lib.hid (G2.out.below HBW.out hh2)
  have c20 : W.cell? ⟨w.heap.size, 0, none⟩ = some (.int .i64 d1) := HB2.out.cell 0 (by simp)
  have c21 : W.cell? ⟨w.heap.size, 1, none⟩ = some (.slice A1 n1 c1) := HB2.out.cell 1 (by simp)
  clear HW
  cases hga : tabGood a with
  | false =>
    obtain rfl : R = (tabZ, false) := by rw [← HR.out]; unfold mergeI; rw [hga]; rfl
    go_upto_region 2 with (go_at_call 16; refine (isTable_any _ a _ _ W HT1.out (by omega)).mono ?_; rw [hga]; rintro e w1 ⟨rfl, hb1⟩; have H1 := Lib.hid hb1; have hs1 := hb1.size; have c30 := (HB3.out.below hb1 (by omega)).cell 0 (by simp); have c31 := (HB3.out.below hb1 (by omega)).cell 1 (by simp); clear hb1)
    have B4 := HB4.out.below H1.out (by omega)
    have k40 := B4.cell 0 (by simp)
    have k41 := B4.cell 1 (by simp)
    have kf := B4.frozen
    go_wp2_with fail
    (try simp only [Exit.inBlock, Exit.then])
    refine bodyPost_ret (results_tab rfl _ _ _ _ _ rfl (box_store B4)) rfl ?_
    exact ⟨_, rfl, tabZ_in _ _ _, below_store (HBW.out.trans (H1.out.mono (by omega))) (by omega)⟩
  | true =>
  cases hgb : tabGood b with
  | false =>
    obtain rfl : R = (tabZ, false) := by rw [← HR.out]; unfold mergeI; rw [hgb, Bool.and_false]; rfl
    go_upto_region 2 with (first | (go_at_call 16; refine (isTable_any _ b _ _ w1 (HT2.out.below H1.out (by omega)) (by omega)).mono ?_; rw [hgb]; rintro e w2 ⟨rfl, hb2⟩; have H2 := Lib.hid (H1.out.trans (hb2.mono hs1)); have hs2 := H2.out.size; have e20 := (HB2.out.below H2.out (by omega)).cell 0 (by simp); have e30 := (HB3.out.below H2.out (by omega)).cell 0 (by simp); clear hb2) | (go_at_call 16; refine (isTable_any _ a _ _ W HT1.out (by omega)).mono ?_; rw [hga]; rintro e w1 ⟨rfl, hb1⟩; have H1 := Lib.hid hb1; have hs1 := hb1.size; have c30 := (HB3.out.below hb1 (by omega)).cell 0 (by simp); have c31 := (HB3.out.below hb1 (by omega)).cell 1 (by simp); clear hb1))
    have B4 := HB4.out.below H2.out (by omega)
    have k40 := B4.cell 0 (by simp)
    have k41 := B4.cell 1 (by simp)
    have kf := B4.frozen
    go_wp2_with fail
    (try simp only [Exit.inBlock, Exit.then])
    refine bodyPost_ret (results_tab rfl _ _ _ _ _ rfl (box_store B4)) rfl ?_
    exact ⟨_, rfl, tabZ_in _ _ _, below_store (HBW.out.trans (H2.out.mono (by omega))) (by omega)⟩
  | true =>
  by_cases hd : d1 = d2
  case neg =>
    have hde : (d1 != d2) = true := by simpa using hd
    obtain rfl : R = (tabZ, false) := by rw [← HR.out]; unfold mergeI; rw [HD1.out, HD2.out]; simp [hd]
    go_upto_region 2 with (first | (go_at_call 16; refine (isTable_any _ b _ _ w1 (HT2.out.below H1.out (by omega)) (by omega)).mono ?_; rw [hgb]; rintro e w2 ⟨rfl, hb2⟩; have H2 := Lib.hid (H1.out.trans (hb2.mono hs1)); have hs2 := H2.out.size; have e20 := (HB2.out.below H2.out (by omega)).cell 0 (by simp); have e30 := (HB3.out.below H2.out (by omega)).cell 0 (by simp); clear hb2) | (go_at_call 16; refine (isTable_any _ a _ _ W HT1.out (by omega)).mono ?_; rw [hga]; rintro e w1 ⟨rfl, hb1⟩; have H1 := Lib.hid hb1; have hs1 := hb1.size; have c30 := (HB3.out.below hb1 (by omega)).cell 0 (by simp); have c31 := (HB3.out.below hb1 (by omega)).cell 1 (by simp); clear hb1))
    have B4 := HB4.out.below H2.out (by omega)
    have k40 := B4.cell 0 (by simp)
    have k41 := B4.cell 1 (by simp)
    have kf := B4.frozen
    go_wp2_with fail
    (try simp only [Exit.inBlock, Exit.then])
    refine bodyPost_ret (results_tab rfl _ _ _ _ _ rfl (box_store B4)) rfl ?_
    exact ⟨_, rfl, tabZ_in _ _ _, below_store (HBW.out.trans (H2.out.mono (by omega))) (by omega)⟩
  subst hd
  have HRR := Lib.hid (show R = ifTab ⟨d1, mrgI a.rows b.rows⟩ by rw [← HR.out]; unfold mergeI; rw [HD1.out, HD2.out, hga, hgb]; simp)
  have hr1 : n1 ≤ 60 := by
    rw [← HN1.out]; exact tab_small hga
  have hr2 : n2 ≤ 60 := by
    rw [← HN2.out]; exact tab_small hgb
  go_upto_region 3 with (first | (go_at_call 16; refine (isTable_any _ b _ _ w1 (HT2.out.below H1.out (by omega)) (by omega)).mono ?_; rw [hgb]; rintro e w2 ⟨rfl, hb2⟩; have H2 := Lib.hid (H1.out.trans (hb2.mono hs1)); have hs2 := H2.out.size; have e20 := (HB2.out.below H2.out (by omega)).cell 0 (by simp); have e30 := (HB3.out.below H2.out (by omega)).cell 0 (by simp); clear hb2) | (go_at_call 16; refine (isTable_any _ a _ _ W HT1.out (by omega)).mono ?_; rw [hga]; rintro e w1 ⟨rfl, hb1⟩; have H1 := Lib.hid hb1; have hs1 := hb1.size; have c30 := (HB3.out.below hb1 (by omega)).cell 0 (by simp); have c31 := (HB3.out.below hb1 (by omega)).cell 1 (by simp); clear hb1))
  clear c20 c21 c30 c31 e20 e30
  obtain ⟨L, HL⟩ : ∃ L, Hid (a.rows ++ b.rows = L) := ⟨_, Lib.hid rfl⟩
  have hLl : L.length ≤ 1000 := by rw [← HL.out, List.length_append, HN1.out, HN2.out]; omega
  have HM := Lib.hid (show mrgI a.rows b.rows = cUp (srtR L) L.length by unfold mrgI; rw [HL.out])
  have HR3 := Lib.hid (show ifTab ⟨d1, cUp (srtR L) L.length⟩ = R by rw [HRR.out, HM.out])
  refine wp_region_U (fun w' => w'.cell? ⟨w.heap.size, 0, none⟩ = some (.int .i64 d1) ∧ w'.cell? ⟨w.heap.size, 1, none⟩ = some (.slice A1 n1 c1) ∧ w'.cell? ⟨w.heap.size + 1, 1, none⟩ = some (.slice A2 n2 c2)) [11, 12] (by kernel_rfl) ?_
  refine nameU ?_
  intro V HV
  have HV0 := Lib.hid (show Below W.heap.size W V by rw [HV.out]; (first | exact H2.out | exact below_drewN H2.out 1))
  have hsV := HV0.out.size
  clear HV
  have D2 := HB2.out.below HV0.out (by omega)
  have D3 := HB3.out.below HV0.out (by omega)
  have hS0 : V.cell? ⟨w.heap.size, 0, none⟩ = some (.int .i64 d1) ∧ V.cell? ⟨w.heap.size, 1, none⟩ = some (.slice A1 n1 c1) ∧ V.cell? ⟨w.heap.size + 1, 1, none⟩ = some (.slice A2 n2 c2) := ⟨D2.cell 0 (by simp), D2.cell 1 (by simp), D3.cell 1 (by simp)⟩
  refine anyU_take (i := 0) (v := .pointer (some ⟨w.heap.size, 0, none⟩)) rfl (by kernel_rfl) (by kernel_rfl) (by kernel_rfl) (fun _ _ _ h => h) ⟨by rfl, fun w' hS' => (by obtain ⟨k1, k2, k3⟩ := hS'; go_simp)⟩ hS0 ?_
  simp only [List.getElem_toArray, List.getElem_cons_zero, Act.put, List.setIfInBounds_toArray, List.set_cons_zero, List.set_cons_succ]
  refine anyU_take (i := 1) (v := .int .i64 d1) rfl (by kernel_rfl) (by kernel_rfl) (by kernel_rfl) (fun _ _ _ h => h) ⟨by rfl, fun w' hS' => (by obtain ⟨k1, k2, k3⟩ := hS'; go_simp)⟩ hS0 ?_
  simp only [List.getElem_toArray, List.getElem_cons_succ, List.getElem_cons_zero, Act.put, List.setIfInBounds_toArray, List.set_cons_zero, List.set_cons_succ]
  refine anyU_take (i := 2) (v := .pointer (some ⟨w.heap.size, 1, none⟩)) rfl (by kernel_rfl) (by kernel_rfl) (by kernel_rfl) (fun _ _ _ h => h) ⟨by rfl, fun w' hS' => (by obtain ⟨k1, k2, k3⟩ := hS'; go_simp)⟩ hS0 ?_
  simp only [List.getElem_toArray, List.getElem_cons_succ, List.getElem_cons_zero, Act.put, List.setIfInBounds_toArray, List.set_cons_zero, List.set_cons_succ]
  refine anyU_take (i := 3) (v := .slice A1 n1 c1) rfl (by kernel_rfl) (by kernel_rfl) (by kernel_rfl) (fun _ _ _ h => h) ⟨by rfl, fun w' hS' => (by obtain ⟨k1, k2, k3⟩ := hS'; go_simp)⟩ hS0 ?_
  simp only [List.getElem_toArray, List.getElem_cons_succ, List.getElem_cons_zero, Act.put, List.setIfInBounds_toArray, List.set_cons_zero, List.set_cons_succ]
  refine anyU_take (i := 4) (v := .pointer (some ⟨w.heap.size + 1, 1, none⟩)) rfl (by kernel_rfl) (by kernel_rfl) (by kernel_rfl) (fun _ _ _ h => h) ⟨by rfl, fun w' hS' => (by obtain ⟨k1, k2, k3⟩ := hS'; go_simp)⟩ hS0 ?_
  simp only [List.getElem_toArray, List.getElem_cons_succ, List.getElem_cons_zero, Act.put, List.setIfInBounds_toArray, List.set_cons_zero, List.set_cons_succ]
  refine anyU_take (i := 5) (v := .slice A2 n2 c2) rfl (by kernel_rfl) (by kernel_rfl) (by kernel_rfl) (fun _ _ _ h => h) ⟨by rfl, fun w' hS' => (by obtain ⟨k1, k2, k3⟩ := hS'; go_simp)⟩ hS0 ?_
  simp only [List.getElem_toArray, List.getElem_cons_succ, List.getElem_cons_zero, Act.put, List.setIfInBounds_toArray, List.set_cons_zero, List.set_cons_succ]
  refine anyU_ready (rs := [6]) (by kernel_rfl) (by simp) ?_
  refine ReadyU.cons (i := 6) rfl (fun K hK => ?_) ReadyU.nil
  simp only [List.getElem_toArray, List.getElem_cons_succ, List.getElem_cons_zero]
  refine ite_is (by rfl) ?_
  simp [go_sem]
  have BX := Lib.hid (HV0.out.alloc hsV (.cells #[.slice A1 n1 c1, .slice A2 n2 c2] 26))
  have E2X := HB2.out.below BX.out (by omega)
  have E3X := HB3.out.below BX.out (by omega)
  have hSX : (V.alloc (.cells #[.slice A1 n1 c1, .slice A2 n2 c2] 26)).cell? ⟨w.heap.size, 0, none⟩ = some (.int .i64 d1) ∧ (V.alloc (.cells #[.slice A1 n1 c1, .slice A2 n2 c2] 26)).cell? ⟨w.heap.size, 1, none⟩ = some (.slice A1 n1 c1) ∧ (V.alloc (.cells #[.slice A1 n1 c1, .slice A2 n2 c2] 26)).cell? ⟨w.heap.size + 1, 1, none⟩ = some (.slice A2 n2 c2) := ⟨E2X.cell 0 (by simp), E2X.cell 1 (by simp), E3X.cell 1 (by simp)⟩
  refine hK.out _ _ ⟨fun _ => hSX, ?_⟩
  clear hK K
  try simp only [List.getElem_toArray, List.getElem_cons_succ, List.getElem_cons_zero, Act.put, List.setIfInBounds_toArray, List.set_cons_zero, List.set_cons_succ]
  refine nameU ?_
  intro X HX
  have HBX := Lib.hid (show BoxN X V.heap.size #[.slice A1 n1 c1, .slice A2 n2 c2] 26 by rw [HX.out]; exact BoxN.new _ _ _)
  have hsX : X.heap.size = V.heap.size + 1 := by rw [HX.out]; simp
  have BX2 := Lib.hid (show Below W.heap.size W X by rw [HX.out]; exact BX.out)
  rw [← HX.out] at hSX
  clear HX
  refine anyU_ready (rs := [7]) (by kernel_rfl) (by simp) ?_
  refine ReadyU.cons (i := 7) rfl (fun K hK => ?_) ReadyU.nil
  simp only [List.getElem_toArray, List.getElem_cons_succ, List.getElem_cons_zero]
  refine ite_is (by rfl) ?_
  simp [go_sem]
  refine (concatR_any V.heap.size _ _ a.rows b.rows _ _ _ _ X (HBX.out.cell 0 (by simp)) (HBX.out.cell 1 (by simp)) (by omega) (HG1.out.below BX2.out (by omega)) (by omega) (HG2.out.below BX2.out (by omega)) (by omega) (by rw [HN1.out]; omega) (by rw [HN2.out]; omega)).mono ?_
  rw [HL.out]
  rintro e w3 ⟨r3, rfl, hr3, hb3⟩
  obtain ⟨A3, c3, rfl⟩ := hr3.shape
  have hs3 := hb3.size
  have R3 := Lib.hid hr3
  have B3 := Lib.hid (BX2.out.trans (hb3.mono (by omega)))
  have Bw3 := B3
  have E2w3 := HB2.out.below B3.out (by omega)
  have E3w3 := HB3.out.below B3.out (by omega)
  have hSw3 : w3.cell? ⟨w.heap.size, 0, none⟩ = some (.int .i64 d1) ∧ w3.cell? ⟨w.heap.size, 1, none⟩ = some (.slice A1 n1 c1) ∧ w3.cell? ⟨w.heap.size + 1, 1, none⟩ = some (.slice A2 n2 c2) := ⟨E2w3.cell 0 (by simp), E2w3.cell 1 (by simp), E3w3.cell 1 (by simp)⟩
  clear hr3 hb3
  refine hK.out _ _ ⟨fun _ => hSw3, ?_⟩
  clear hK K
  try simp only [List.getElem_toArray, List.getElem_cons_succ, List.getElem_cons_zero, Act.put, List.setIfInBounds_toArray, List.set_cons_zero, List.set_cons_succ]
  refine anyU_ready (rs := [8]) (by kernel_rfl) (by simp) ?_
  refine ReadyU.cons (i := 8) rfl (fun K hK => ?_) ReadyU.nil
  simp only [List.getElem_toArray, List.getElem_cons_succ, List.getElem_cons_zero]
  refine ite_is (by rfl) ?_
  simp [go_sem]
  refine (madeTable_any d1 _ L _ _ w3 R3.out (Nat.le_refl _) (by omega)).mono ?_
  rw [HR3.out]
  rintro e w4 ⟨rv, rfl, hT, hb4⟩
  obtain ⟨A4, c4, rfl, hr4⟩ := hT
  have hs4 := hb4.size
  have R4 := Lib.hid hr4
  have B4 := Lib.hid (B3.out.trans (hb4.mono (by omega)))
  have E2w4 := HB2.out.below B4.out (by omega)
  have E3w4 := HB3.out.below B4.out (by omega)
  have hSw4 : w4.cell? ⟨w.heap.size, 0, none⟩ = some (.int .i64 d1) ∧ w4.cell? ⟨w.heap.size, 1, none⟩ = some (.slice A1 n1 c1) ∧ w4.cell? ⟨w.heap.size + 1, 1, none⟩ = some (.slice A2 n2 c2) := ⟨E2w4.cell 0 (by simp), E2w4.cell 1 (by simp), E3w4.cell 1 (by simp)⟩
  have K4 := Lib.hid (HB4.out.below B4.out (by omega))
  clear hr4 hb4
  refine hK.out _ _ ⟨fun _ => hSw4, ?_⟩
  clear hK K
  try simp only [List.getElem_toArray, List.getElem_cons_succ, List.getElem_cons_zero, Act.put, List.setIfInBounds_toArray, List.set_cons_zero, List.set_cons_succ]
  refine anyU_take (i := 9) (v := .agg #[.int .i64 R.1.depth, .slice A4 R.1.rows.length c4]) rfl (by kernel_rfl) (by kernel_rfl) (by kernel_rfl) (fun _ _ _ h => h) ⟨by rfl, fun w' hS' => (by obtain ⟨k1, k2, k3⟩ := hS'; go_simp)⟩ hSw4 ?_
  simp only [List.getElem_toArray, List.getElem_cons_succ, List.getElem_cons_zero, Act.put, List.setIfInBounds_toArray, List.set_cons_zero, List.set_cons_succ]
  refine anyU_take (i := 10) (v := .bool R.2) rfl (by kernel_rfl) (by kernel_rfl) (by kernel_rfl) (fun _ _ _ h => h) ⟨by rfl, fun w' hS' => (by obtain ⟨k1, k2, k3⟩ := hS'; go_simp)⟩ hSw4 ?_
  simp only [List.getElem_toArray, List.getElem_cons_succ, List.getElem_cons_zero, Act.put, List.setIfInBounds_toArray, List.set_cons_zero, List.set_cons_succ]
  refine anyU_ready (rs := [11]) (by kernel_rfl) (by simp) ?_
  refine ReadyU.cons (i := 11) rfl (fun K hK => ?_) ReadyU.nil
  simp only [List.getElem_toArray, List.getElem_cons_succ, List.getElem_cons_zero]
  refine ite_is (by rfl) ?_
  simp [go_sem, K4.out.cell 0 (by simp), K4.out.cell 1 (by simp), K4.out.frozen]
  refine hK.out _ _ ⟨fun h => absurd h (by decide), ?_⟩
  clear hK K
  try simp only [List.getElem_toArray, List.getElem_cons_succ, List.getElem_cons_zero, Act.put, List.setIfInBounds_toArray, List.set_cons_zero, List.set_cons_succ]
  refine anyU_ready (rs := [12]) (by kernel_rfl) (by simp) ?_
  refine ReadyU.cons (i := 12) rfl (fun K hK => ?_) ReadyU.nil
  simp only [List.getElem_toArray, List.getElem_cons_succ, List.getElem_cons_zero]
  refine ite_is (by rfl) ?_
  simp [go_sem]
  refine hK.out _ _ ⟨fun h => absurd h (by decide), ?_⟩
  clear hK K
  try simp only [List.getElem_toArray, List.getElem_cons_succ, List.getElem_cons_zero, Act.put, List.setIfInBounds_toArray, List.set_cons_zero, List.set_cons_succ]
  refine anyU_done (by kernel_rfl) ?_ _
  go_wp2_with fail
  (try simp only [Exit.inBlock, Exit.then])
  refine bodyPost_ret (results_tab rfl _ _ _ _ _ rfl (box_store K4.out)) rfl ?_
  refine ⟨_, rfl, ⟨A4, c4, rfl, ?_⟩, below_store (HBW.out.trans (B4.out.mono (by omega))) (by omega)⟩
  exact ((R4.out.setCell (.inl (by show w.heap.size + 1 + 1 < w3.heap.size; omega)) _).setCell (.inl (by show w.heap.size + 1 + 1 < w3.heap.size; omega)) _).mono (by omega) (by simp)


end Go.Proofs.Ytlfdhhmccjkogaa
