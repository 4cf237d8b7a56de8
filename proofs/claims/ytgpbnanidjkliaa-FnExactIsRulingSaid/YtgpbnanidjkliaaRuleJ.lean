/-
  Contract of the program's IsRuling.
-/
import Derived.Test.YtgpbnanidjkliaaRuleI
import Derived.Test.YtgpbnanidjkliaaEdge2
namespace Go.Proofs.Ytgpbnanidjkliaa
open Go.ChangeShapes Go.WideShapes Go.ChangeAt Go.RowKit
set_option linter.unusedVariables false

set_option maxHeartbeats 4000000 in
set_option maxRecDepth 100000 in
theorem IsRuling_impl (v1 : Value) (N : NetD) (lo1 hi1 : Nat) (v2 : Value) (zs : List Int) (lo2 hi2 : Nat) (α : Int) (β : Int) (w : World) (h1 : Net w lo1 hi1 v1 N) (hh1 : hi1 ≤ w.heap.size) (h2 : IntS w lo2 hi2 v2 zs) (hh2 : hi2 ≤ w.heap.size) (hz1 : N.sz ≤ 1048576) (hz2 : zs.length ≤ 1048576) (ok1 : N.Ok) (ok2 : ∀ z ∈ zs, I64 z) (ok3 : I64 α) (ok4 : I64 β) :
    Calls Try.prog 47 #[v1, v2, .int .i64 α, .int .i64 β] w fun e w' => e = .returned (.tuple #[.bool (ruleRes N zs α β), .bool (ruleOk N zs α β)]) ∧ Below w.heap.size w w' := by
  clear ok1 ok2
  have F1 := Lib.hid h1
  obtain ⟨A1, c1, A1', c1', A1'', c1'', rfl, hc1, hd1, _⟩ := h1.parts
  clear h1
  have F2 := Lib.hid h2
  obtain ⟨A2, c2, rfl, hc2, hd2⟩ := h2.dims
  clear h2
  obtain ⟨WA, HWA⟩ : ∃ W, Hid (W = (w.alloc (.cells #[.slice A1 N.ends.length c1, .slice A1' N.ids.length c1', .slice A1'' N.inputs.length c1''] 31))) := ⟨_, Lib.hid rfl⟩
  have hbA : Below w.heap.size w WA := by rw [HWA.out]; exact ((Below.refl _ _).alloc (Nat.le_refl _) _)
  have hsA : w.heap.size + 1 ≤ WA.heap.size := by rw [HWA.out]; simp; try omega
  have bx1 : BoxN WA (w.heap.size) #[.slice A1 N.ends.length c1, .slice A1' N.ids.length c1', .slice A1'' N.inputs.length c1''] 31 := by rw [HWA.out]; exact (BoxN.new' _ _ _ (by simp))
  have G1 := Lib.hid (Net.below F1.out hbA hh1); clear F1
  have G2 := Lib.hid (IntS.below F2.out hbA hh2); clear F2
  go_enter Try.func47, Try.ntmps47
  go_upto_region 1 with (fail)
  rw [← HWA.out]; clear HWA
  have kbx1_0 : WA.cell? ⟨w.heap.size, 0, none⟩ = some (.slice A1 N.ends.length c1) := bx1.cell 0 (by simp)
  have kbx1_1 : WA.cell? ⟨w.heap.size, 1, none⟩ = some (.slice A1' N.ids.length c1') := bx1.cell 1 (by simp)
  have kbx1_2 : WA.cell? ⟨w.heap.size, 2, none⟩ = some (.slice A1'' N.inputs.length c1'') := bx1.cell 2 (by simp)
  go_wp2_with fail
  clear kbx1_0 kbx1_1 kbx1_2
  refine (isNodeSet_any _ N lo1 hi1 _ zs lo2 hi2 _ G1.out (by omega) G2.out (by omega) hz1).mono ?_
  rintro e W1 ⟨rfl, hb1⟩
  have hg1 := grown_below hb1; clear hb1
  have hs1 := hg1.size
  have HF1 := Lib.hid ((Turned.refl WA.heap.size WA.heap.size WA).still hg1)
  by_cases hns : nodeSet N zs = true
  case neg =>
    have hns' : nodeSet N zs = false := by simpa using hns
    rw [hns']
    have HNS := Lib.hid hns'; clear hns hns'
    go_wp2_with fail
    go_ret2
    exact ⟨ret_bb (rule_no (by unfold ruleOk; rw [HNS.out]; rfl)).symm (show false = ruleOk N zs α β by unfold ruleOk; rw [HNS.out]; rfl), (HF1.out.below_of hbA (by omega) (by omega))⟩
  rw [hns]
  have HNS := Lib.hid hns; clear hns
  by_cases ha : inB α 1 40 = true
  case neg =>
    have ha' : inB α 1 40 = false := by simpa using ha
    have HO := Lib.hid (show ruleOk N zs α β = false by unfold ruleOk; rw [ha']; simp)
    clear ha
    go_wp2_with (go_at_call 79; refine (within_any _ _ _ _).mono ?_; rintro e w' ⟨rfl, rfl⟩)
    go_ret2
    exact ⟨ret_bb (rule_no HO.out).symm HO.out.symm, (HF1.out.below_of hbA (by omega) (by omega))⟩
  by_cases hbt : inB β 0 40 = true
  case neg =>
    have hbt' : inB β 0 40 = false := by simpa using hbt
    have HO := Lib.hid (show ruleOk N zs α β = false by unfold ruleOk; rw [hbt']; simp)
    clear hbt
    go_wp2_with (go_at_call 79; refine (within_any _ _ _ _).mono ?_; rintro e w' ⟨rfl, rfl⟩)
    go_ret2
    exact ⟨ret_bb (rule_no HO.out).symm HO.out.symm, (HF1.out.below_of hbA (by omega) (by omega))⟩
  have HO := Lib.hid (show ruleOk N zs α β = true by unfold ruleOk; rw [HNS.out, ha, hbt]; rfl)
  have HGG := Lib.hid (nodeSet_good HNS.out)
  obtain ⟨n1, n40⟩ := good_n HGG.out
  obtain ⟨α1, α2⟩ := inB_le ha
  have kbx1_0 : W1.cell? ⟨w.heap.size, 0, none⟩ = some (.slice A1 N.ends.length c1) := (HF1.out.boxN bx1 (by omega)).cell 0 (by simp)
  have kbx1_1 : W1.cell? ⟨w.heap.size, 1, none⟩ = some (.slice A1' N.ids.length c1') := (HF1.out.boxN bx1 (by omega)).cell 1 (by simp)
  have kbx1_2 : W1.cell? ⟨w.heap.size, 2, none⟩ = some (.slice A1'' N.inputs.length c1'') := (HF1.out.boxN bx1 (by omega)).cell 2 (by simp)
  go_wp2_with (go_at_call 79; refine (within_any _ _ _ _).mono ?_; rintro e w' ⟨rfl, rfl⟩)
  clear kbx1_0 kbx1_1 kbx1_2 ha hbt
  refine (allDistances_any _ N lo1 hi1 _ (Net.turned G1.out HF1.out (by omega) (by omega)) (by omega) (by omega) (good_nodes HGG.out) (good_degs HGG.out)).mono ?_
  rintro e W2 ⟨rd, rfl, hrd, hb2⟩
  have hg2 := grown_below hb2; clear hb2
  have hs2 := hg2.size
  have HF2 := Lib.hid (HF1.out.still hg2); clear HF1
  have D2 := Lib.hid hrd; clear hrd
  have N_2 := Lib.hid (Net.turned G1.out HF2.out (by omega) (by omega)); clear G1
  have zs_2 := Lib.hid (IntS.turned G2.out HF2.out (by omega) (by omega)); clear G2
  have bx1_2 := HF2.out.boxN bx1 (by omega); clear bx1
  have hbA2 := (HF2.out.below_of hbA (by omega) (by omega)); clear hbA HF2
  obtain ⟨Ad, cd, rfl, hcd, hdd⟩ := D2.out.dims
  rw [allDist_length] at hcd ⊢
  go_wp2_with fail
  go_loop [32] (fun i => ∃ (k : Nat), k ≤ N.ends.length ∧ i = .int .i64 k ∧ Hid (∀ j, j < k → rowRules N zs α β j = true)) (fun i => N.ends.length - (intOf i).toNat)
  case atStart => exact ⟨0, Nat.zero_le _, rfl, Lib.hid fun j hj => absurd hj (by omega)⟩
  case round =>
    obtain ⟨k, hk, rfl, HU⟩ := hrel
    by_cases hlt : k < N.ends.length
    case neg =>
      obtain rfl : k = N.ends.length := by omega
      go_wp2_with fail
      go_ret2
      exact ⟨ret_bb (by rw [rule_yes HO.out, ← rules_eq HNS.out]; exact (rangeAll_true HU.out).symm) HO.out.symm, hbA2⟩
    have hlt2 : k < (allDist N).length := by rw [allDist_length]; exact hlt
    obtain ⟨bs, os, us, rfl, _, hbs, zd, hus⟩ := SS.opened D2.out hlt2
    clear hlt2
    rw [nthL_allDist N hlt] at hus
    obtain ⟨As, cs, rfl, hcs, hds⟩ := hus.dims
    have US := Lib.hid hus; clear hus
    have hdl := dist_len (good_nodes HGG.out) hlt
    rw [hdl] at zd hcs
    have HDL := Lib.hid hdl; clear hdl
    go_wp2_with fail
    go_loop [39, 12] (fun i nv => ∃ (m : Nat) (nr : Bool), m ≤ zs.length ∧ i = .int .i64 m ∧ nv = .bool nr ∧ Hid (∀ j, j < m → (!rowBad N zs α k (nth zs j)) = true) ∧ Hid (nr = (zs.take m).any fun x => inB (nth (dist N k) x.toNat) 0 β)) (fun i nv => zs.length - (intOf i).toNat)
    case atStart => exact ⟨0, false, Nat.zero_le _, rfl, rfl, Lib.hid fun j hj => absurd hj (by omega), Lib.hid rfl⟩
    case round =>
      obtain ⟨m, nr, hm, rfl, rfl, HV, HNR⟩ := hrel
      by_cases hml : m < zs.length
      case neg =>
        obtain rfl : m = zs.length := by omega
        rw [List.take_length] at HNR
        cases nr with
        | false =>
          go_wp2_with fail
          go_ret2
          exact ⟨ret_bb (by rw [rule_yes HO.out, ← rules_eq HNS.out]; exact (rangeAll_false hlt (by unfold rowRules; rw [← HNR.out, Bool.and_false])).symm) HO.out.symm, hbA2⟩
        | true =>
          go_wp2_with fail
          go_round
          case rel =>
            refine ⟨k + 1, by omega, by go_num, Lib.hid fun j hj => ?_⟩
            by_cases e : j = k
            · rw [e]; unfold rowRules; rw [← HNR.out, Bool.and_true]; exact all_nth.2 HV.out
            · exact HU.out j (by omega)
          case measure => simp [intOf]; omega
      obtain ⟨t, ht, htl⟩ := nodeSet_mem HNS.out hml
      obtain ⟨bz, oz, rfl, _, _, xz, _⟩ := IntS.opened zs_2.out hml
      rw [ht] at xz
      obtain ⟨bR, oR, rfl, _, _, xr, _⟩ := IntS.opened US.out (j := t) (by rw [HDL.out]; exact htl)
      obtain ⟨y, HY⟩ : ∃ y, Hid (nth (dist N k) t = y) := ⟨_, Lib.hid rfl⟩
      rw [HY.out] at xr
      have hti : (t : Int) < N.ends.length := by omega
      have HT := Lib.hid ht
      clear ht
      have HN2 := Lib.hid (show (zs.take (m + 1)).any (fun x => inB (nth (dist N k) x.toNat) 0 β) = (nr || inB y 0 β) by rw [List.take_succ_eq_append_getElem hml, List.any_append, ← HNR.out, ← nth_eq hml, HT.out]; simp [HY.out])
      have HB := Lib.hid (show rowBad N zs α k (nth zs m) = ((t : Int) != (k : Int) && decide ((k : Int) ∈ zs) && inB y 0 (α - 1)) by unfold rowBad; rw [HT.out, Int.toNat_natCast, HY.out])
      cases nr with
      | true =>
        by_cases d1 : t = k
        case pos =>
          have d1' : ((t : Int) != (k : Int)) = false := by simp [d1]
          have D1 := Lib.hid d1'; clear d1
          go_wp2_with (first | (go_at_call 79; refine (within_any _ _ _ _).mono ?_; rintro e w' ⟨rfl, rfl⟩) | (go_at_call 98; refine (contains_any _ zs _ _ _ _ zs_2.out).mono ?_; rintro e w' ⟨rfl, rfl⟩))
          go_round
          case rel =>
            refine ⟨m + 1, true, by omega, by go_num, rfl, Lib.hid fun j hj => ?_, Lib.hid (by rw [HN2.out]; simp)⟩
            by_cases e : j = m
            · rw [e, HB.out]; rw [D1.out]; rfl
            · exact HV.out j (by omega)
          case measure => simp [intOf]; omega
        have d1' : ((t : Int) != (k : Int)) = true := by simp; omega
        have D1 := Lib.hid d1'; clear d1
        by_cases d2 : (k : Int) ∈ zs
        case neg =>
          have d2' : decide ((k : Int) ∈ zs) = false := decide_eq_false d2
          have D2 := Lib.hid d2'; clear d2
          go_wp2_with (first | (go_at_call 79; refine (within_any _ _ _ _).mono ?_; rintro e w' ⟨rfl, rfl⟩) | (go_at_call 98; refine (contains_any _ zs _ _ _ _ zs_2.out).mono ?_; rintro e w' ⟨rfl, rfl⟩))
          go_round
          case rel =>
            refine ⟨m + 1, true, by omega, by go_num, rfl, Lib.hid fun j hj => ?_, Lib.hid (by rw [HN2.out]; simp)⟩
            by_cases e : j = m
            · rw [e, HB.out]; rw [D2.out, Bool.and_false]; rfl
            · exact HV.out j (by omega)
          case measure => simp [intOf]; omega
        have d2' : decide ((k : Int) ∈ zs) = true := decide_eq_true d2
        have D2 := Lib.hid d2'; clear d2
        cases d3 : inB y 0 (α - 1) with
        | false =>
          have D3 := Lib.hid d3
          go_wp2_with (first | (go_at_call 79; refine (within_any _ _ _ _).mono ?_; rintro e w' ⟨rfl, rfl⟩) | (go_at_call 98; refine (contains_any _ zs _ _ _ _ zs_2.out).mono ?_; rintro e w' ⟨rfl, rfl⟩))
          go_round
          case rel =>
            refine ⟨m + 1, true, by omega, by go_num, rfl, Lib.hid fun j hj => ?_, Lib.hid (by rw [HN2.out]; simp)⟩
            by_cases e : j = m
            · rw [e, HB.out]; rw [D3.out, Bool.and_false]; rfl
            · exact HV.out j (by omega)
          case measure => simp [intOf]; omega
        | true =>
          have D3 := Lib.hid d3
          go_wp2_with (first | (go_at_call 79; refine (within_any _ _ _ _).mono ?_; rintro e w' ⟨rfl, rfl⟩) | (go_at_call 98; refine (contains_any _ zs _ _ _ _ zs_2.out).mono ?_; rintro e w' ⟨rfl, rfl⟩))
          go_ret2
          refine ⟨ret_bb ?_ HO.out.symm, hbA2⟩
          rw [rule_yes HO.out, ← rules_eq HNS.out]
          refine (rangeAll_false hlt ?_).symm
          unfold rowRules
          rw [all_false hml (by rw [HB.out, D1.out, D2.out, D3.out]; rfl)]; rfl
      | false =>
        cases dn : inB y 0 β with
        | true =>
          have DN := Lib.hid dn
          by_cases d1 : t = k
          case pos =>
            have d1' : ((t : Int) != (k : Int)) = false := by simp [d1]
            have D1 := Lib.hid d1'; clear d1
            go_wp2_with (first | (go_at_call 79; refine (within_any _ _ _ _).mono ?_; rintro e w' ⟨rfl, rfl⟩) | (go_at_call 98; refine (contains_any _ zs _ _ _ _ zs_2.out).mono ?_; rintro e w' ⟨rfl, rfl⟩))
            go_round
            case rel =>
              refine ⟨m + 1, true, by omega, by go_num, rfl, Lib.hid fun j hj => ?_, Lib.hid (by rw [HN2.out]; rw [DN.out]; rfl)⟩
              by_cases e : j = m
              · rw [e, HB.out]; rw [D1.out]; rfl
              · exact HV.out j (by omega)
            case measure => simp [intOf]; omega
          have d1' : ((t : Int) != (k : Int)) = true := by simp; omega
          have D1 := Lib.hid d1'; clear d1
          by_cases d2 : (k : Int) ∈ zs
          case neg =>
            have d2' : decide ((k : Int) ∈ zs) = false := decide_eq_false d2
            have D2 := Lib.hid d2'; clear d2
            go_wp2_with (first | (go_at_call 79; refine (within_any _ _ _ _).mono ?_; rintro e w' ⟨rfl, rfl⟩) | (go_at_call 98; refine (contains_any _ zs _ _ _ _ zs_2.out).mono ?_; rintro e w' ⟨rfl, rfl⟩))
            go_round
            case rel =>
              refine ⟨m + 1, true, by omega, by go_num, rfl, Lib.hid fun j hj => ?_, Lib.hid (by rw [HN2.out]; rw [DN.out]; rfl)⟩
              by_cases e : j = m
              · rw [e, HB.out]; rw [D2.out, Bool.and_false]; rfl
              · exact HV.out j (by omega)
            case measure => simp [intOf]; omega
          have d2' : decide ((k : Int) ∈ zs) = true := decide_eq_true d2
          have D2 := Lib.hid d2'; clear d2
          cases d3 : inB y 0 (α - 1) with
          | false =>
            have D3 := Lib.hid d3
            go_wp2_with (first | (go_at_call 79; refine (within_any _ _ _ _).mono ?_; rintro e w' ⟨rfl, rfl⟩) | (go_at_call 98; refine (contains_any _ zs _ _ _ _ zs_2.out).mono ?_; rintro e w' ⟨rfl, rfl⟩))
            go_round
            case rel =>
              refine ⟨m + 1, true, by omega, by go_num, rfl, Lib.hid fun j hj => ?_, Lib.hid (by rw [HN2.out]; rw [DN.out]; rfl)⟩
              by_cases e : j = m
              · rw [e, HB.out]; rw [D3.out, Bool.and_false]; rfl
              · exact HV.out j (by omega)
            case measure => simp [intOf]; omega
          | true =>
            have D3 := Lib.hid d3
            go_wp2_with (first | (go_at_call 79; refine (within_any _ _ _ _).mono ?_; rintro e w' ⟨rfl, rfl⟩) | (go_at_call 98; refine (contains_any _ zs _ _ _ _ zs_2.out).mono ?_; rintro e w' ⟨rfl, rfl⟩))
            go_ret2
            refine ⟨ret_bb ?_ HO.out.symm, hbA2⟩
            rw [rule_yes HO.out, ← rules_eq HNS.out]
            refine (rangeAll_false hlt ?_).symm
            unfold rowRules
            rw [all_false hml (by rw [HB.out, D1.out, D2.out, D3.out]; rfl)]; rfl
        | false =>
          have DN := Lib.hid dn
          by_cases d1 : t = k
          case pos =>
            have d1' : ((t : Int) != (k : Int)) = false := by simp [d1]
            have D1 := Lib.hid d1'; clear d1
            go_wp2_with (first | (go_at_call 79; refine (within_any _ _ _ _).mono ?_; rintro e w' ⟨rfl, rfl⟩) | (go_at_call 98; refine (contains_any _ zs _ _ _ _ zs_2.out).mono ?_; rintro e w' ⟨rfl, rfl⟩))
            go_round
            case rel =>
              refine ⟨m + 1, false, by omega, by go_num, rfl, Lib.hid fun j hj => ?_, Lib.hid (by rw [HN2.out]; rw [DN.out]; rfl)⟩
              by_cases e : j = m
              · rw [e, HB.out]; rw [D1.out]; rfl
              · exact HV.out j (by omega)
            case measure => simp [intOf]; omega
          have d1' : ((t : Int) != (k : Int)) = true := by simp; omega
          have D1 := Lib.hid d1'; clear d1
          by_cases d2 : (k : Int) ∈ zs
          case neg =>
            have d2' : decide ((k : Int) ∈ zs) = false := decide_eq_false d2
            have D2 := Lib.hid d2'; clear d2
            go_wp2_with (first | (go_at_call 79; refine (within_any _ _ _ _).mono ?_; rintro e w' ⟨rfl, rfl⟩) | (go_at_call 98; refine (contains_any _ zs _ _ _ _ zs_2.out).mono ?_; rintro e w' ⟨rfl, rfl⟩))
            go_round
            case rel =>
              refine ⟨m + 1, false, by omega, by go_num, rfl, Lib.hid fun j hj => ?_, Lib.hid (by rw [HN2.out]; rw [DN.out]; rfl)⟩
              by_cases e : j = m
              · rw [e, HB.out]; rw [D2.out, Bool.and_false]; rfl
              · exact HV.out j (by omega)
            case measure => simp [intOf]; omega
          have d2' : decide ((k : Int) ∈ zs) = true := decide_eq_true d2
          have D2 := Lib.hid d2'; clear d2
          cases d3 : inB y 0 (α - 1) with
          | false =>
            have D3 := Lib.hid d3
            go_wp2_with (first | (go_at_call 79; refine (within_any _ _ _ _).mono ?_; rintro e w' ⟨rfl, rfl⟩) | (go_at_call 98; refine (contains_any _ zs _ _ _ _ zs_2.out).mono ?_; rintro e w' ⟨rfl, rfl⟩))
            go_round
            case rel =>
              refine ⟨m + 1, false, by omega, by go_num, rfl, Lib.hid fun j hj => ?_, Lib.hid (by rw [HN2.out]; rw [DN.out]; rfl)⟩
              by_cases e : j = m
              · rw [e, HB.out]; rw [D3.out, Bool.and_false]; rfl
              · exact HV.out j (by omega)
            case measure => simp [intOf]; omega
          | true =>
            have D3 := Lib.hid d3
            go_wp2_with (first | (go_at_call 79; refine (within_any _ _ _ _).mono ?_; rintro e w' ⟨rfl, rfl⟩) | (go_at_call 98; refine (contains_any _ zs _ _ _ _ zs_2.out).mono ?_; rintro e w' ⟨rfl, rfl⟩))
            go_ret2
            refine ⟨ret_bb ?_ HO.out.symm, hbA2⟩
            rw [rule_yes HO.out, ← rules_eq HNS.out]
            refine (rangeAll_false hlt ?_).symm
            unfold rowRules
            rw [all_false hml (by rw [HB.out, D1.out, D2.out, D3.out]; rfl)]; rfl

end Go.Proofs.Ytgpbnanidjkliaa
