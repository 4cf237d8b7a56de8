/-
  Contracts of GreedyDistanceColouring (program and reference).
-/
import Derived.Test.YtapfighdnfmdcaaColour
import Derived.Test.YtapfighdnfmdcaaDistI
namespace Go.Proofs.Ytapfighdnfmdcaa
open Go.ChangeShapes Go.WideShapes Go.ChangeAt Go.RowKit
set_option linter.unusedVariables false

theorem gdStep_other (N : NetD) (k : Int) (o : List Int) (v : Int) (j : Nat) (h : (j : Int) ≠ v) (h0 : 0 ≤ v) : nth (gdStep N k o v) j = nth o j := by
  unfold gdStep
  by_cases hl : v.toNat < o.length
  · rw [nth_set _ _ _ _ hl, if_neg (by omega)]
  · rw [List.set_eq_of_length_le (by omega)]
theorem used_len (ds out : List Int) (k : Int) (m : Nat) : (usedOf ds out k m).length ≤ m := by
  unfold usedOf; rw [List.length_map]; exact Nat.le_trans (List.length_filter_le _ _) (by simp)

set_option maxHeartbeats 4000000 in
set_option maxRecDepth 100000 in
theorem GreedyDistanceColouring_impl (v1 : Value) (N : NetD) (lo1 hi1 : Nat) (v2 : Value) (zs : List Int) (lo2 hi2 : Nat) (q : Int) (w : World) (h1 : Net w lo1 hi1 v1 N) (hh1 : hi1 ≤ w.heap.size) (h2 : IntS w lo2 hi2 v2 zs) (hh2 : hi2 ≤ w.heap.size) (hz1 : N.sz ≤ 1048576) (hz2 : zs.length ≤ 1048576) (ok1 : N.Ok) (ok2 : ∀ z ∈ zs, I64 z) (ok3 : I64 q) :
    Calls Try.prog 28 #[v1, v2, .int .i64 q] w fun e w' => ∃ r, e = .returned (.tuple #[r, .bool (gdOk N zs q)]) ∧ IntS w' w.heap.size w'.heap.size r (gdOut N zs q) ∧ Below w.heap.size w w' := by
  clear ok1 ok2
  have F1 := Lib.hid h1
  obtain ⟨A1, c1, A1', c1', A1'', c1'', rfl, hc1, hd1, _⟩ := h1.parts
  clear h1
  have F2 := Lib.hid h2
  obtain ⟨A2, c2, rfl, hc2, hd2⟩ := h2.dims
  clear h2
  obtain ⟨WA, HWA⟩ : ∃ W, Hid (W = (w.alloc (.cells #[.slice A1 N.ends.length c1, .slice A1' N.ids.length c1', .slice A1'' N.inputs.length c1''] 31))) := ⟨_, Lib.hid rfl⟩
  have hbA : Below w.heap.size w WA := by rw [HWA.out]; exact ((Below.refl _ _).alloc (Nat.le_refl _) _)
  have hsA : w.heap.size + 1 ≤ WA.heap.size := by rw [HWA.out]; simp; try omega
  have bx1 : BoxN WA (w.heap.size) #[.slice A1 N.ends.length c1, .slice A1' N.ids.length c1', .slice A1'' N.inputs.length c1''] 31 := by rw [HWA.out]; exact (BoxN.new' _ _ _ (by simp))
  have G1 := Lib.hid (Net.below F1.out hbA hh1); clear F1
  have G2 := Lib.hid (IntS.below F2.out hbA hh2); clear F2
  go_enter Try.func28, Try.ntmps28
  go_upto_region 1 with (fail)
  rw [← HWA.out]; clear HWA
  have kbx1_0 : WA.cell? ⟨w.heap.size, 0, none⟩ = some (.slice A1 N.ends.length c1) := bx1.cell 0 (by simp)
  have kbx1_1 : WA.cell? ⟨w.heap.size, 1, none⟩ = some (.slice A1' N.ids.length c1') := bx1.cell 1 (by simp)
  have kbx1_2 : WA.cell? ⟨w.heap.size, 2, none⟩ = some (.slice A1'' N.inputs.length c1'') := bx1.cell 2 (by simp)
  go_wp2_with fail
  clear kbx1_0 kbx1_1 kbx1_2
  refine (isOrder_any _ N lo1 hi1 _ zs lo2 hi2 _ G1.out (by omega) G2.out (by omega) hz1).mono ?_
  rintro e W1 ⟨rfl, hb1⟩
  have hg1 := grown_below hb1; clear hb1
  have hs1 := hg1.size
  have HF1 := Lib.hid ((Turned.refl WA.heap.size WA.heap.size WA).still hg1)
  by_cases hor : orderB N zs = true
  case neg =>
    have hor' : orderB N zs = false := by simpa using hor
    rw [hor']
    have HOR := Lib.hid hor'; clear hor hor'
    go_wp2_with fail
    go_ret2
    exact ⟨_, ret_vb (show false = gdOk N zs q by unfold gdOk; rw [HOR.out]; simp), by unfold gdOut gdOk; rw [HOR.out]; simp only [Bool.false_and]; exact IntS.nil _ _ _, (HF1.out.below_of hbA (by omega) (by omega))⟩
  rw [hor]
  have HOR := Lib.hid hor; clear hor
  have HG := Lib.hid (orderB_parts HOR.out).1
  have HP := Lib.hid (orderB_parts HOR.out).2
  obtain ⟨n1, n40⟩ := good_n HG.out
  have hzl : zs.length ≤ N.ends.length := by have := perm_len HP.out; omega
  by_cases hq : inB q 1 40 = true
  case neg =>
    have hq' : inB q 1 40 = false := by simpa using hq
    have HQ := Lib.hid hq'; clear hq
    go_wp2_with (go_at_call 68; refine (within_any _ _ _ _).mono ?_; rintro e w' ⟨rfl, rfl⟩)
    go_ret2
    exact ⟨_, ret_vb (show false = gdOk N zs q by unfold gdOk; rw [HQ.out]; simp), by unfold gdOut gdOk; rw [HQ.out]; simp only [Bool.and_false]; exact IntS.nil _ _ _, (HF1.out.below_of hbA (by omega) (by omega))⟩
  have HQ := Lib.hid hq
  have HOK := Lib.hid (show gdOk N zs q = true by unfold gdOk; rw [HOR.out, HQ.out]; rfl)
  have kbx1_0 : W1.cell? ⟨w.heap.size, 0, none⟩ = some (.slice A1 N.ends.length c1) := (HF1.out.boxN bx1 (by omega)).cell 0 (by simp)
  have kbx1_1 : W1.cell? ⟨w.heap.size, 1, none⟩ = some (.slice A1' N.ids.length c1') := (HF1.out.boxN bx1 (by omega)).cell 1 (by simp)
  have kbx1_2 : W1.cell? ⟨w.heap.size, 2, none⟩ = some (.slice A1'' N.inputs.length c1'') := (HF1.out.boxN bx1 (by omega)).cell 2 (by simp)
  go_wp2_with (go_at_call 68; refine (within_any _ _ _ _).mono ?_; rintro e w' ⟨rfl, rfl⟩)
  clear kbx1_0 kbx1_1 kbx1_2
  refine (noMatching_any _ N lo1 hi1 _ (Net.turned G1.out HF1.out (by omega) (by omega)) (by omega) (by omega)).mono ?_
  rintro e W2 ⟨ro, rfl, hro, hb2⟩
  have hg2 := grown_below hb2; clear hb2
  have hs2 := hg2.size
  have HF2 := Lib.hid (HF1.out.still hg2); clear HF1
  have O2 := Lib.hid hro; clear hro
  obtain ⟨Ao, co, rfl, hco, hdo⟩ := O2.out.dims
  obtain ⟨bo, oo, rfl, lbo, hbo, _, _⟩ := IntS.opened O2.out (j := 0) (by simp; omega)
  rw [List.length_replicate] at hco ⊢
  have N_2 := Lib.hid (Net.turned G1.out HF2.out (by omega) (by omega)); clear G1
  have zs_2 := Lib.hid (IntS.turned G2.out HF2.out (by omega) (by omega)); clear G2
  have bx1_2 := HF2.out.boxN bx1 (by omega); clear bx1
  have hbA2 := (HF2.out.below_of hbA (by omega) (by omega)); clear hbA HF2
  rw [List.length_replicate] at O2
  have HOM : Hid (IntS W2 W1.heap.size W2.heap.size (.slice (some ⟨bo, oo, none⟩) N.ends.length co) (negs N.ends.length)) := O2; clear O2
  go_wp2_with fail
  go_loopw [27] (fun i wr => ∃ (k : Nat) (out : List Int), k ≤ zs.length ∧ i = .int .i64 k ∧ Hid (IntS wr W1.heap.size W2.heap.size (.slice (some ⟨bo, oo, none⟩) N.ends.length co) out) ∧ Hid (out = (zs.take k).foldl (gdStep N q) (negs N.ends.length)) ∧ Hid (out.length = N.ends.length) ∧ Hid (Turned W1.heap.size W2.heap.size W2 wr)) (fun i _ => zs.length - (intOf i).toNat)
  case atStart => exact ⟨0, negs N.ends.length, Nat.zero_le _, rfl, HOM, Lib.hid rfl, Lib.hid (negs_length _), Lib.hid (Turned.refl W1.heap.size W2.heap.size W2)⟩
  case round =>
    obtain ⟨k, out, hk, rfl, HO, HX, HL, HF3⟩ := hrel
    have hs3 := HF3.out.size
    by_cases hlt : k < zs.length
    case neg =>
      obtain rfl : k = zs.length := by omega
      go_wp2_with fail
      go_ret2
      refine ⟨_, ret_vb HOK.out.symm, ?_, (HF3.out.below_of hbA2 (by omega) (by omega))⟩
      have e : gdOut N zs q = out := by unfold gdOut; rw [HOK.out, if_pos rfl, HX.out, List.take_length]; rfl
      rw [e]
      exact HO.out.mono (by omega) (by omega)
    obtain ⟨t, et, htl, hnm⟩ := perm_at HP.out hlt
    obtain ⟨b5, o5, rfl, _, _, x5, _⟩ := IntS.opened (IntS.turned zs_2.out HF3.out (by omega) (by omega)) hlt
    rw [et] at x5 hnm
    have HXX := Lib.hid (show (zs.take (k + 1)).foldl (gdStep N q) (negs N.ends.length) = out.set t (lf (usedOf (dist N t) out q N.ends.length)) by rw [foldl_takeI _ _ _ hlt, ← HX.out, et]; rfl)
    have HFR := Lib.hid (show nth out t = -1 by rw [HX.out]; exact gc_fresh (fun o v => by simp [gdStep]) (gdStep_other N q) HP.out k hk t htl hnm)
    clear et hnm
    have kbx1_0 : wr.cell? ⟨w.heap.size, 0, none⟩ = some (.slice A1 N.ends.length c1) := (HF3.out.boxN bx1_2 (by omega)).cell 0 (by simp)
    have kbx1_1 : wr.cell? ⟨w.heap.size, 1, none⟩ = some (.slice A1' N.ids.length c1') := (HF3.out.boxN bx1_2 (by omega)).cell 1 (by simp)
    have kbx1_2 : wr.cell? ⟨w.heap.size, 2, none⟩ = some (.slice A1'' N.inputs.length c1'') := (HF3.out.boxN bx1_2 (by omega)).cell 2 (by simp)
    go_wp2_with fail
    clear kbx1_0 kbx1_1 kbx1_2 x5
    refine (distancesFrom_any _ N t lo1 hi1 _ (Net.turned N_2.out HF3.out (by omega) (by omega)) (by omega) htl (by omega) (good_nodes HG.out) (good_degs HG.out)).mono ?_
    rintro e W4 ⟨rd, rfl, hrd, hb4⟩
    have hg4 := grown_below hb4; clear hb4
    have hs4 := hg4.size
    have HF4 := Lib.hid (HF3.out.still hg4); clear HF3
    have O4 := Lib.hid (IntS.still HO.out hg4 (by omega)); clear HO
    have R4 := Lib.hid hrd; clear hrd
    obtain ⟨wo, rfl⟩ : ∃ wo : World, wo = wr := ⟨_, rfl⟩
    obtain ⟨Ar, cr, rfl, hcr, hdr⟩ := R4.out.dims
    have HDL := Lib.hid (dist_len (good_nodes HG.out) htl)
    rw [HDL.out] at hcr ⊢
    obtain ⟨bR, oR, rfl, _, hbR, _, _⟩ := IntS.opened R4.out (j := 0) (by rw [HDL.out]; omega)
    rw [HDL.out] at R4
    go_wp2_with fail
    go_loopw [35, 11] (fun i ov wr => ∃ (m : Nat) (us : List Int), m ≤ N.ends.length ∧ i = .int .i64 m ∧ Hid (IntS wr W1.heap.size W2.heap.size (.slice (some ⟨bo, oo, none⟩) N.ends.length co) out) ∧ Hid (IntS wr wo.heap.size W4.heap.size (.slice (some ⟨bR, oR, none⟩) N.ends.length cr) (dist N t)) ∧ Hid (OwnI wr W4.heap.size 3 ov us) ∧ Hid (us = usedOf (dist N t) out q m) ∧ us.length ≤ m ∧ W4.heap.size ≤ wr.heap.size ∧ Hid (Turned W1.heap.size W2.heap.size W2 wr)) (fun i ov _ => N.ends.length - (intOf i).toNat)
    case atStart => exact ⟨0, [], Nat.zero_le _, rfl, O4, R4, Lib.hid (OwnI.nil _ _ _), Lib.hid rfl, Nat.zero_le _, Nat.le_refl _, HF4⟩
    case round =>
      clear HF4
      obtain ⟨m, us, hm, rfl, HO, HR, HZ, HU, hul, hz, HF5⟩ := hrel
      have hs5 := HF5.out.size
      have hlv := HZ.out.lt
      by_cases hml : m < N.ends.length
      case neg =>
        obtain rfl : m = N.ends.length := by omega
        obtain ⟨Az, cz, rfl, hcz, hdz⟩ := HZ.out.ints.dims
        obtain ⟨y1, y2⟩ := HO.out.at_ (j := t) (by rw [HL.out]; exact htl)
        rw [HFR.out] at y1
        rw [← HU.out] at HXX
        have hlfl := lf_le us
        have HS := Lib.hid (HO.out.set (j := t) (by rw [HL.out]; exact htl) (lf us))
        obtain ⟨c, HC⟩ : ∃ c : Nat, Hid (Go.Proofs.Ytapfighdnfmdcaa.lf us = c) := ⟨_, Lib.hid rfl⟩
        rw [HC.out] at HS hlfl HXX
        have hti : (t : Int) < N.ends.length := by omega
        have HFN := Lib.hid (HF5.out.grown (grown_set wr ⟨bo, oo + t, none⟩ (.int .i64 c)) fun g hg => .inl (by cases hg; exact ⟨by show _ ≤ bo; omega, by show bo < _; omega⟩))
        go_wp2_with (go_at_call 75; refine (leastFree_any _ us _ _ _ HZ.out.ints (Nat.le_refl _) (by omega)).mono ?_; rintro e w' ⟨rfl, rfl⟩; rw [HC.out])
        go_roundw
        case rel => exact ⟨k + 1, _, by omega, by go_num, HS, Lib.hid HXX.out.symm, Lib.hid (by rw [List.length_set]; exact HL.out), HFN⟩
        case measure => simp [intOf]; omega
      obtain ⟨x1, _⟩ := HR.out.at_ (j := m) (by rw [HDL.out]; exact hml)
      obtain ⟨y1, _⟩ := HO.out.at_ (j := m) (by rw [HL.out]; exact hml)
      obtain ⟨d, HDD⟩ : ∃ d, Hid (nth (dist N t) m = d) := ⟨_, Lib.hid rfl⟩
      obtain ⟨y, HY⟩ : ∃ y, Hid (nth out m = y) := ⟨_, Lib.hid rfl⟩
      rw [HDD.out] at x1
      rw [HY.out] at y1
      cases hin : inB d 1 q with
      | false =>
        have HIN := Lib.hid hin
        go_wp2_with (go_at_call 68; refine (within_any _ _ _ _).mono ?_; rintro e w' ⟨rfl, rfl⟩)
        go_roundw
        case rel => exact ⟨m + 1, us, by omega, by go_num, HO, HR, HZ, Lib.hid (by rw [HU.out, used_no (by rw [HDD.out]; exact HIN.out)]), by omega, hz, HF5⟩
        case measure => simp [intOf]; omega
      | true =>
        have HIN := Lib.hid hin
        go_wp2_with (first | (go_at_call 68; refine (within_any _ _ _ _).mono ?_; rintro e w' ⟨rfl, rfl⟩) | (at_builtin; refine append_int (s := .tmp 43) Try.underlying23 Try.info3 (by decide) wr rfl _ rfl HZ.out y _ rfl (by simp [Act.eval, go_sem]) (by omega) (by omega) ?_; intro v' w' ho' hg' hat'))
        go_roundw
        case rel =>
          have hgs := hg'.size
          exact ⟨m + 1, _, by omega, by go_num, Lib.hid (IntS.far HO.out hg' (by omega) (fun g hg => .inr (by have := hlv g hg; omega))), Lib.hid (IntS.far HR.out hg' (by omega) (fun g hg => .inr (by have := hlv g hg; omega))), Lib.hid ho', Lib.hid (by rw [used_yes (by rw [HDD.out]; exact HIN.out), HU.out, HY.out]), by simp; omega, by omega, Lib.hid (HF5.out.grown hg' fun g hg => .inr (by have := hlv g hg; omega))⟩
        case measure => simp [intOf]; omega

set_option maxHeartbeats 4000000 in
set_option maxRecDepth 100000 in
theorem GreedyDistanceColouring_spec (v1 : Value) (N : NetD) (lo1 hi1 : Nat) (v2 : Value) (zs : List Int) (lo2 hi2 : Nat) (q : Int) (w : World) (h1 : Net w lo1 hi1 v1 N) (hh1 : hi1 ≤ w.heap.size) (h2 : IntS w lo2 hi2 v2 zs) (hh2 : hi2 ≤ w.heap.size) (hz1 : N.sz ≤ 1048576) (hz2 : zs.length ≤ 1048576) (ok1 : N.Ok) (ok2 : ∀ z ∈ zs, I64 z) (ok3 : I64 q) :
    Calls Try.prog 27 #[v1, v2, .int .i64 q] w fun e w' => ∃ r, e = .returned (.tuple #[r, .bool (gdOk N zs q)]) ∧ IntS w' w.heap.size w'.heap.size r (gdOut N zs q) ∧ Below w.heap.size w w' := by
  clear ok1 ok2
  have F1 := Lib.hid h1
  obtain ⟨A1, c1, A1', c1', A1'', c1'', rfl, hc1, hd1, _⟩ := h1.parts
  clear h1
  have F2 := Lib.hid h2
  obtain ⟨A2, c2, rfl, hc2, hd2⟩ := h2.dims
  clear h2
  obtain ⟨WA, HWA⟩ : ∃ W, Hid (W = (w.alloc (.cells #[.slice A1 N.ends.length c1, .slice A1' N.ids.length c1', .slice A1'' N.inputs.length c1''] 31))) := ⟨_, Lib.hid rfl⟩
  have hbA : Below w.heap.size w WA := by rw [HWA.out]; exact ((Below.refl _ _).alloc (Nat.le_refl _) _)
  have hsA : w.heap.size + 1 ≤ WA.heap.size := by rw [HWA.out]; simp; try omega
  have bx1 : BoxN WA (w.heap.size) #[.slice A1 N.ends.length c1, .slice A1' N.ids.length c1', .slice A1'' N.inputs.length c1''] 31 := by rw [HWA.out]; exact (BoxN.new' _ _ _ (by simp))
  have G1 := Lib.hid (Net.below F1.out hbA hh1); clear F1
  have G2 := Lib.hid (IntS.below F2.out hbA hh2); clear F2
  go_enter Try.func27, Try.ntmps27
  go_upto_region 1 with (fail)
  rw [← HWA.out]; clear HWA
  have kbx1_0 : WA.cell? ⟨w.heap.size, 0, none⟩ = some (.slice A1 N.ends.length c1) := bx1.cell 0 (by simp)
  have kbx1_1 : WA.cell? ⟨w.heap.size, 1, none⟩ = some (.slice A1' N.ids.length c1') := bx1.cell 1 (by simp)
  have kbx1_2 : WA.cell? ⟨w.heap.size, 2, none⟩ = some (.slice A1'' N.inputs.length c1'') := bx1.cell 2 (by simp)
  go_wp2_with fail
  clear kbx1_0 kbx1_1 kbx1_2
  refine (ruOrder_any _ N lo1 hi1 _ zs lo2 hi2 _ G1.out (by omega) G2.out (by omega) hz1).mono ?_
  rintro e W1 ⟨rfl, hb1⟩
  have hg1 := grown_below hb1; clear hb1
  have hs1 := hg1.size
  have HF1 := Lib.hid ((Turned.refl WA.heap.size WA.heap.size WA).still hg1)
  by_cases hor : orderB N zs = true
  case neg =>
    have hor' : orderB N zs = false := by simpa using hor
    rw [hor']
    have HOR := Lib.hid hor'; clear hor hor'
    go_wp2_with fail
    go_ret2
    exact ⟨_, ret_vb (show false = gdOk N zs q by unfold gdOk; rw [HOR.out]; simp), by unfold gdOut gdOk; rw [HOR.out]; simp only [Bool.false_and]; exact IntS.nil _ _ _, (HF1.out.below_of hbA (by omega) (by omega))⟩
  rw [hor]
  have HOR := Lib.hid hor; clear hor
  have HG := Lib.hid (orderB_parts HOR.out).1
  have HP := Lib.hid (orderB_parts HOR.out).2
  obtain ⟨n1, n40⟩ := good_n HG.out
  have hzl : zs.length ≤ N.ends.length := by have := perm_len HP.out; omega
  by_cases hq : inB q 1 40 = true
  case neg =>
    have hq' : inB q 1 40 = false := by simpa using hq
    have HQ := Lib.hid hq'; clear hq
    go_wp2_with (go_at_call 65; refine (l1In_any _ _ _ _).mono ?_; rintro e w' ⟨rfl, rfl⟩)
    go_ret2
    exact ⟨_, ret_vb (show false = gdOk N zs q by unfold gdOk; rw [HQ.out]; simp), by unfold gdOut gdOk; rw [HQ.out]; simp only [Bool.and_false]; exact IntS.nil _ _ _, (HF1.out.below_of hbA (by omega) (by omega))⟩
  have HQ := Lib.hid hq
  have HOK := Lib.hid (show gdOk N zs q = true by unfold gdOk; rw [HOR.out, HQ.out]; rfl)
  have hmk := fun W => run_make_row' (P := Try.prog) 23 3 (.int .i64 0) 8 Try.underlying23 Try.info3 rfl .i64 .i64 N.ends.length (by omega) (by omega) W
  have N_1 := Lib.hid (Net.turned G1.out HF1.out (by omega) (by omega)); clear G1
  have zs_1 := Lib.hid (IntS.turned G2.out HF1.out (by omega) (by omega)); clear G2
  have bx1_1 := HF1.out.boxN bx1 (by omega); clear bx1
  have hbA1 := (HF1.out.below_of hbA (by omega) (by omega)); clear hbA HF1
  have kbx1_0 : W1.cell? ⟨w.heap.size, 0, none⟩ = some (.slice A1 N.ends.length c1) := bx1_1.cell 0 (by simp)
  have kbx1_1 : W1.cell? ⟨w.heap.size, 1, none⟩ = some (.slice A1' N.ids.length c1') := bx1_1.cell 1 (by simp)
  have kbx1_2 : W1.cell? ⟨w.heap.size, 2, none⟩ = some (.slice A1'' N.inputs.length c1'') := bx1_1.cell 2 (by simp)
  go_upto_region 3 with (go_at_call 65; refine (l1In_any _ _ _ _).mono ?_; rintro e w' ⟨rfl, rfl⟩)
  go_upto_region 4 with (fail)
  refine nameC ?_
  intro W2 HW2
  have hg2 : W1.grownBy W2 none := by rw [HW2.out]; exact grown_alloc _ _
  have hs2 := hg2.size
  have HF2 := Lib.hid ((Turned.refl W1.heap.size W1.heap.size W1).still hg2)
  have HO := Lib.hid (show IntS W2 W1.heap.size (W1.heap.size + 1) (.slice (some ⟨W1.heap.size, 0, none⟩) N.ends.length N.ends.length) (List.replicate N.ends.length 0) by rw [HW2.out]; exact made_ints _ _ _ rfl (by omega))
  have hz : W1.heap.size + 1 ≤ W2.heap.size := by rw [HW2.out]; simp
  clear HW2 hmk
  go_wp2_with fail
  go_loopw [30] (fun i wr => ∃ (k : Nat) (zs : List Int), k ≤ N.ends.length ∧ i = .int .i64 k ∧ Hid (IntS wr W1.heap.size (W1.heap.size + 1) (.slice (some ⟨W1.heap.size, 0, none⟩) N.ends.length N.ends.length) zs) ∧ Hid (zs.length = N.ends.length) ∧ Hid (∀ j, j < N.ends.length → nth zs j = if j < k then (fun _ => (-1 : Int)) j else 0) ∧ W1.heap.size + 1 ≤ wr.heap.size ∧ Hid (Turned W1.heap.size W1.heap.size W1 wr)) (fun i _ => N.ends.length - (intOf i).toNat)
  case atStart => exact ⟨0, List.replicate N.ends.length 0, Nat.zero_le _, rfl, HO, Lib.hid (by simp), Lib.hid fun j hj => by rw [nth_replicate _ _ hj]; simp, hz, HF2⟩
  case round =>
    clear HF2
    obtain ⟨k, zs, hk, rfl, HO, HL, HZ, hz, HF3⟩ := hrel
    have hs3 := HF3.out.size
    by_cases hlt : k < N.ends.length
    case pos =>
      obtain ⟨x1, x2⟩ := HO.out.at0 (j := k) (by rw [HL.out]; exact hlt)
      have HS := Lib.hid (HO.out.set0 (j := k) (by rw [HL.out]; exact hlt) (-1))
      obtain ⟨y, HY⟩ : ∃ y, Hid (nth zs k = y) := ⟨_, Lib.hid rfl⟩
      rw [HY.out] at x1
      go_wp2_with fail
      go_roundw
      case rel => exact ⟨k + 1, _, by omega, by go_num, HS, Lib.hid (by rw [List.length_set]; exact HL.out), Lib.hid (set_fold HL.out hlt HZ.out), by rw [size_setCell]; exact hz, Lib.hid (HF3.out.grown (grown_set _ ⟨W1.heap.size, k, none⟩ _) fun g hg => .inr (by cases hg; exact Nat.le_refl _))⟩
      case measure => simp [intOf]; omega
    obtain rfl : k = N.ends.length := by omega
    obtain rfl : zs = negs N.ends.length := ext_nth (by rw [HL.out, negs_length]) fun j hj => by
      rw [HL.out] at hj
      rw [HZ.out j hj, if_pos hj]; exact (nth_replicate _ _ hj).symm
    clear HL HZ hlt hk
    obtain ⟨wm, rfl⟩ : ∃ wm : World, wm = wr := ⟨_, rfl⟩
    have N_3 := Lib.hid (Net.turned N_1.out HF3.out (by omega) (by omega)); clear N_1
    have zs_3 := Lib.hid (IntS.turned zs_1.out HF3.out (by omega) (by omega)); clear zs_1
    have bx1_3 := HF3.out.boxN bx1_1 (by omega); clear bx1_1
    have hbA3 := (HF3.out.below_of hbA1 (by omega) (by omega)); clear hbA1 HF3
    have HOM := HO; clear HO
    go_wp2_with fail
    go_loopw [39] (fun i wr => ∃ (k : Nat) (out : List Int), k ≤ zs.length ∧ i = .int .i64 k ∧ Hid (IntS wr W1.heap.size (W1.heap.size + 1) (.slice (some ⟨W1.heap.size, 0, none⟩) N.ends.length N.ends.length) out) ∧ Hid (out = (zs.take k).foldl (gdStep N q) (negs N.ends.length)) ∧ Hid (out.length = N.ends.length) ∧ Hid (Turned W1.heap.size (W1.heap.size + 1) wm wr)) (fun i _ => zs.length - (intOf i).toNat)
    case atStart => exact ⟨0, negs N.ends.length, Nat.zero_le _, rfl, HOM, Lib.hid rfl, Lib.hid (negs_length _), Lib.hid (Turned.refl W1.heap.size (W1.heap.size + 1) wm)⟩
    case round =>
      obtain ⟨k, out, hk, rfl, HO, HX, HL, HF4⟩ := hrel
      have hs4 := HF4.out.size
      by_cases hlt : k < zs.length
      case neg =>
        obtain rfl : k = zs.length := by omega
        go_wp2_with fail
        go_ret2
        refine ⟨_, ret_vb HOK.out.symm, ?_, (HF4.out.below_of hbA3 (by omega) (by omega))⟩
        have e : gdOut N zs q = out := by unfold gdOut; rw [HOK.out, if_pos rfl, HX.out, List.take_length]; rfl
        rw [e]
        exact HO.out.mono (by omega) (by omega)
      obtain ⟨t, et, htl, hnm⟩ := perm_at HP.out hlt
      obtain ⟨b5, o5, rfl, _, _, x5, _⟩ := IntS.opened (IntS.turned zs_3.out HF4.out (by omega) (by omega)) hlt
      rw [et] at x5 hnm
      have HXX := Lib.hid (show (zs.take (k + 1)).foldl (gdStep N q) (negs N.ends.length) = out.set t (lf (usedOf (dist N t) out q N.ends.length)) by rw [foldl_takeI _ _ _ hlt, ← HX.out, et]; rfl)
      have HFR := Lib.hid (show nth out t = -1 by rw [HX.out]; exact gc_fresh (fun o v => by simp [gdStep]) (gdStep_other N q) HP.out k hk t htl hnm)
      clear et hnm
      have kbx1_0 : wr.cell? ⟨w.heap.size, 0, none⟩ = some (.slice A1 N.ends.length c1) := (HF4.out.boxN bx1_3 (by omega)).cell 0 (by simp)
      have kbx1_1 : wr.cell? ⟨w.heap.size, 1, none⟩ = some (.slice A1' N.ids.length c1') := (HF4.out.boxN bx1_3 (by omega)).cell 1 (by simp)
      have kbx1_2 : wr.cell? ⟨w.heap.size, 2, none⟩ = some (.slice A1'' N.inputs.length c1'') := (HF4.out.boxN bx1_3 (by omega)).cell 2 (by simp)
      go_wp2_with fail
      clear kbx1_0 kbx1_1 kbx1_2 x5
      refine (meFrom_any _ N t lo1 hi1 _ (Net.turned N_3.out HF4.out (by omega) (by omega)) (by omega) htl (by omega) (good_nodes HG.out) (good_degs HG.out)).mono ?_
      rintro e W5 ⟨rd, rfl, hrd, hb5⟩
      have hg5 := grown_below hb5; clear hb5
      have hs5 := hg5.size
      have HF5 := Lib.hid (HF4.out.still hg5); clear HF4
      have O5 := Lib.hid (IntS.still HO.out hg5 (by omega)); clear HO
      have R5 := Lib.hid hrd; clear hrd
      obtain ⟨wo, rfl⟩ : ∃ wo : World, wo = wr := ⟨_, rfl⟩
      obtain ⟨Ar, cr, rfl, hcr, hdr⟩ := R5.out.dims
      have HDL := Lib.hid (dist_len (good_nodes HG.out) htl)
      rw [HDL.out] at hcr ⊢
      obtain ⟨bR, oR, rfl, _, hbR, _, _⟩ := IntS.opened R5.out (j := 0) (by rw [HDL.out]; omega)
      rw [HDL.out] at R5
      go_wp2_with fail
      go_loopw [47, 12] (fun i ov wr => ∃ (m : Nat) (us : List Int), m ≤ N.ends.length ∧ i = .int .i64 m ∧ Hid (IntS wr W1.heap.size (W1.heap.size + 1) (.slice (some ⟨W1.heap.size, 0, none⟩) N.ends.length N.ends.length) out) ∧ Hid (IntS wr wo.heap.size W5.heap.size (.slice (some ⟨bR, oR, none⟩) N.ends.length cr) (dist N t)) ∧ Hid (OwnI wr W5.heap.size 3 ov us) ∧ Hid (us = usedOf (dist N t) out q m) ∧ us.length ≤ m ∧ W5.heap.size ≤ wr.heap.size ∧ Hid (Turned W1.heap.size (W1.heap.size + 1) wm wr)) (fun i ov _ => N.ends.length - (intOf i).toNat)
      case atStart => exact ⟨0, [], Nat.zero_le _, rfl, O5, R5, Lib.hid (OwnI.nil _ _ _), Lib.hid rfl, Nat.zero_le _, Nat.le_refl _, HF5⟩
      case round =>
        clear HF5
        obtain ⟨m, us, hm, rfl, HO, HR, HZ, HU, hul, hz, HF6⟩ := hrel
        have hs6 := HF6.out.size
        have hlv := HZ.out.lt
        by_cases hml : m < N.ends.length
        case neg =>
          obtain rfl : m = N.ends.length := by omega
          obtain ⟨Az, cz, rfl, hcz, hdz⟩ := HZ.out.ints.dims
          obtain ⟨y1, y2⟩ := HO.out.at0 (j := t) (by rw [HL.out]; exact htl)
          rw [HFR.out] at y1
          rw [← HU.out] at HXX
          have hlfl := lf_le us
          have HS := Lib.hid (HO.out.set0 (j := t) (by rw [HL.out]; exact htl) (lf us))
          obtain ⟨c, HC⟩ : ∃ c : Nat, Hid (Go.Proofs.Ytapfighdnfmdcaa.lf us = c) := ⟨_, Lib.hid rfl⟩
          rw [HC.out] at HS hlfl HXX
          have hti : (t : Int) < N.ends.length := by omega
          have HFN := Lib.hid (HF6.out.grown (grown_set wr ⟨W1.heap.size, t, none⟩ (.int .i64 c)) fun g hg => .inl (by cases hg; exact ⟨by show _ ≤ W1.heap.size; omega, by show W1.heap.size < _; omega⟩))
          go_wp2_with (go_at_call 72; refine (clLeast_any _ us _ _ _ HZ.out.ints (Nat.le_refl _) (by omega)).mono ?_; rintro e w' ⟨rfl, rfl⟩; rw [HC.out])
          go_roundw
          case rel => exact ⟨k + 1, _, by omega, by go_num, HS, Lib.hid HXX.out.symm, Lib.hid (by rw [List.length_set]; exact HL.out), HFN⟩
          case measure => simp [intOf]; omega
        obtain ⟨x1, _⟩ := HR.out.at_ (j := m) (by rw [HDL.out]; exact hml)
        obtain ⟨y1, _⟩ := HO.out.at0 (j := m) (by rw [HL.out]; exact hml)
        obtain ⟨d, HDD⟩ : ∃ d, Hid (nth (dist N t) m = d) := ⟨_, Lib.hid rfl⟩
        obtain ⟨y, HY⟩ : ∃ y, Hid (nth out m = y) := ⟨_, Lib.hid rfl⟩
        rw [HDD.out] at x1
        rw [HY.out] at y1
        cases hin : inB d 1 q with
        | false =>
          have HIN := Lib.hid hin
          go_wp2_with (go_at_call 65; refine (l1In_any _ _ _ _).mono ?_; rintro e w' ⟨rfl, rfl⟩)
          go_roundw
          case rel => exact ⟨m + 1, us, by omega, by go_num, HO, HR, HZ, Lib.hid (by rw [HU.out, used_no (by rw [HDD.out]; exact HIN.out)]), by omega, hz, HF6⟩
          case measure => simp [intOf]; omega
        | true =>
          have HIN := Lib.hid hin
          go_wp2_with (first | (go_at_call 65; refine (l1In_any _ _ _ _).mono ?_; rintro e w' ⟨rfl, rfl⟩) | (at_builtin; refine append_int (s := .tmp 55) Try.underlying23 Try.info3 (by decide) wr rfl _ rfl HZ.out y _ rfl (by simp [Act.eval, go_sem]) (by omega) (by omega) ?_; intro v' w' ho' hg' hat'))
          go_roundw
          case rel =>
            have hgs := hg'.size
            exact ⟨m + 1, _, by omega, by go_num, Lib.hid (IntS.far HO.out hg' (by omega) (fun g hg => .inr (by have := hlv g hg; omega))), Lib.hid (IntS.far HR.out hg' (by omega) (fun g hg => .inr (by have := hlv g hg; omega))), Lib.hid ho', Lib.hid (by rw [used_yes (by rw [HDD.out]; exact HIN.out), HU.out, HY.out]), by simp; omega, by omega, Lib.hid (HF6.out.grown hg' fun g hg => .inr (by have := hlv g hg; omega))⟩
          case measure => simp [intOf]; omega

end Go.Proofs.Ytapfighdnfmdcaa
