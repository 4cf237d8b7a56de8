/-
  Contracts: permutations, orders of a network's nodes, least free numbers (program and reference).
-/
import Derived.Test.YtcmmklcampmkjaaBasics
import Derived.Test.YtcmmklcampmkjaaNearP
namespace Go.Proofs.Ytcmmklcampmkjaa
open Go.ChangeShapes Go.WideShapes Go.ChangeAt Go.RowKit
set_option linter.unusedVariables false

theorem Try.infoBool : (Try.prog.info? 4).map (fun i => (i.zero, i.size, i.bytes)) = some (some (.bool false), 1, 1) := by kernel_rfl
theorem permB_bad {zs : List Int} {n k : Nat} (hk : k < zs.length) (h : permAt zs n k = false) : permB zs n = false := by unfold permB; rw [rangeAll_false hk h]; rfl
def orderB (N : NetD) (zs : List Int) : Bool := N.good && permB zs N.ends.length
theorem seen_step {zs : List Int} {n k t : Nat} {bs : List Bool} (hl : bs.length = n) (hk : k < zs.length) (ht : nth zs k = t) (htn : t < n) (h : ∀ j : Nat, j < n → nthB bs j = decide ((j : Int) ∈ zs.take k)) : ∀ j : Nat, j < n → nthB (bs.set t true) j = decide ((j : Int) ∈ zs.take (k + 1)) := fun j hj => by
  rw [nthB_set _ _ _ _ (by omega), List.take_succ_eq_append_getElem hk, ← nth_eq hk, ht]
  by_cases e : j = t
  · rw [if_pos e, e]; simp
  · rw [if_neg e, h j hj, Bool.eq_iff_iff]
    simp only [decide_eq_true_eq, List.mem_append, List.mem_singleton]
    exact ⟨fun h => .inl h, fun h => h.resolve_right (by omega)⟩

set_option maxHeartbeats 4000000 in
set_option maxRecDepth 100000 in
theorem isPermutation_any (v1 : Value) (zs : List Int) (lo1 hi1 : Nat) (n : Nat) (w : World) (h1 : IntS w lo1 hi1 v1 zs) (hh1 : hi1 ≤ w.heap.size) (hn : n ≤ 1048576) :
    Calls Try.prog 65 #[v1, .int .i64 (n : Nat)] w fun e w' => e = .returned (.bool (permB zs n)) ∧ Below w.heap.size w w' := by
  have hmk := fun W => run_make_row' (P := Try.prog) 72 4 (.bool false) 1 Try.underlying72 Try.infoBool rfl .i64 .i64 n (by omega) (by omega) W
  have F1 := Lib.hid h1
  obtain ⟨A1, c1, rfl, hc1, hd1⟩ := h1.dims
  clear h1
  go_enter Try.func65, Try.ntmps65
  by_cases hl : zs.length = n
  case neg =>
    have hl' : ((zs.length : Int) != (n : Int)) = true := by simp; omega
    go_wp2_with fail
    go_ret
    exact ⟨ret_bool (by unfold permB; rw [decide_eq_false hl, Bool.and_false]), Below.refl _ _⟩
  have hl' : ((zs.length : Int) != (n : Int)) = false := by simp; omega
  have HLN := Lib.hid hl
  have hle : zs.length ≤ n := by omega
  clear hl
  go_wp2_with fail
  refine nameC ?_
  intro W1 HW1
  have hg1 : w.grownBy W1 none := by rw [HW1.out]; exact grown_alloc _ _
  have hs1 := hg1.size
  have HF1 := Lib.hid ((Turned.refl w.heap.size w.heap.size w).still hg1)
  have HO := Lib.hid (show BoolS W1 w.heap.size (w.heap.size + 1) (.slice (some ⟨w.heap.size, 0, none⟩) n n) (List.replicate n false) by rw [HW1.out]; exact made_bools _ _ _ rfl (by omega))
  have hz : w.heap.size + 1 ≤ W1.heap.size := by rw [HW1.out]; simp
  clear HW1 hmk
  go_loopw [16] (fun i wr => ∃ (k : Nat) (bs : List Bool), k ≤ zs.length ∧ i = .int .i64 k ∧ Hid (BoolS wr w.heap.size (w.heap.size + 1) (.slice (some ⟨w.heap.size, 0, none⟩) n n) bs) ∧ Hid (bs.length = n) ∧ Hid (∀ j : Nat, j < n → nthB bs j = decide ((j : Int) ∈ zs.take k)) ∧ Hid (∀ j, j < k → permAt zs n j = true) ∧ w.heap.size + 1 ≤ wr.heap.size ∧ Hid (Turned w.heap.size w.heap.size w wr)) (fun i _ => zs.length - (intOf i).toNat)
  case atStart => exact ⟨0, List.replicate n false, Nat.zero_le _, rfl, HO, Lib.hid (by simp), Lib.hid fun j hj => by rw [nthB_replicate _ _ hj]; simp, Lib.hid fun j hj => absurd hj (by omega), hz, HF1⟩
  case round =>
    clear HF1
    obtain ⟨k, bs, hk, rfl, HO, HL, HB, HU, hz, HF2⟩ := hrel
    have hs2 := HF2.out.size
    by_cases hlt : k < zs.length
    case neg =>
      obtain rfl : k = zs.length := by omega
      go_wp2_with fail
      go_ret
      exact ⟨ret_bool (by unfold permB; rw [rangeAll_true HU.out, decide_eq_true HLN.out]; rfl), (HF2.out.below_of (Below.refl _ _) (by omega) (by omega))⟩
    obtain ⟨be, oe, rfl, _, hbe', xe, _⟩ := (IntS.turned F1.out HF2.out (by omega) (by omega)).opened hlt
    obtain ⟨x, HX⟩ : ∃ x, Hid (nth zs k = x) := ⟨_, Lib.hid rfl⟩
    rw [HX.out] at xe
    by_cases hin : inB x 0 ((n : Int) - 1) = true
    case neg =>
      have hin' : inB x 0 ((n : Int) - 1) = false := by simpa using hin
      have HI := Lib.hid hin'; clear hin
      go_wp2_with (go_at_call 76; refine (within_any _ _ _ _).mono ?_; rintro e w' ⟨rfl, rfl⟩)
      go_ret
      exact ⟨ret_bool (permB_bad hlt (by unfold permAt; rw [HX.out, HI.out]; rfl)).symm, (HF2.out.below_of (Below.refl _ _) (by omega) (by omega))⟩
    obtain ⟨g1, g2⟩ := inB_le hin
    obtain ⟨t, rfl⟩ : ∃ t : Nat, x = t := ⟨x.toNat, by omega⟩
    have htn : t < n := by omega
    have HI := Lib.hid hin
    obtain ⟨x1, x2⟩ := HO.out.at0 (j := t) (by rw [HL.out]; exact htn)
    rw [HB.out t htn] at x1
    by_cases hm : (t : Int) ∈ zs.take k
    case pos =>
      rw [decide_eq_true hm] at x1
      have HM := Lib.hid (decide_eq_true hm); clear hm
      go_wp2_with (go_at_call 76; refine (within_any _ _ _ _).mono ?_; rintro e w' ⟨rfl, rfl⟩)
      go_ret
      exact ⟨ret_bool (permB_bad hlt (by unfold permAt; rw [HX.out, HM.out]; simp)).symm, (HF2.out.below_of (Below.refl _ _) (by omega) (by omega))⟩
    rw [decide_eq_false hm] at x1
    have HM := Lib.hid (decide_eq_false hm); clear hm
    have HS := Lib.hid (HO.out.set0 (j := t) (by rw [HL.out]; exact htn) true)
    go_wp2_with (go_at_call 76; refine (within_any _ _ _ _).mono ?_; rintro e w' ⟨rfl, rfl⟩)
    go_roundw
    case rel =>
      refine ⟨k + 1, _, by omega, by go_num, HS, Lib.hid (by rw [List.length_set]; exact HL.out), Lib.hid (seen_step HL.out hlt HX.out htn HB.out), Lib.hid fun j hj => ?_, by rw [size_setCell]; exact hz, Lib.hid (HF2.out.grown (grown_set _ ⟨w.heap.size, t, none⟩ _) fun g hg => .inr (by cases hg; exact Nat.le_refl _))⟩
      by_cases e : j = k
      · rw [e]; unfold permAt; rw [HX.out, HI.out, HM.out]; rfl
      · exact HU.out j (by omega)
    case measure => simp [intOf]; omega

set_option maxHeartbeats 4000000 in
set_option maxRecDepth 100000 in
theorem nePerm_any (v1 : Value) (zs : List Int) (lo1 hi1 : Nat) (n : Nat) (w : World) (h1 : IntS w lo1 hi1 v1 zs) (hh1 : hi1 ≤ w.heap.size) (hn : n ≤ 1048576) :
    Calls Try.prog 62 #[v1, .int .i64 (n : Nat)] w fun e w' => e = .returned (.bool (permB zs n)) ∧ w = w' := by
  have F1 := Lib.hid h1
  obtain ⟨A1, c1, rfl, hc1, hd1⟩ := h1.dims
  clear h1
  go_enter Try.func62, Try.ntmps62
  go_wp2_with fail
  go_loop [9] (fun i => ∃ (k : Nat), k ≤ zs.length ∧ i = .int .i64 k ∧ Hid (∀ j, j < k → permAt zs n j = true)) (fun i => zs.length - (intOf i).toNat)
  case atStart => exact ⟨0, Nat.zero_le _, rfl, Lib.hid fun j hj => absurd hj (by omega)⟩
  case round =>
    obtain ⟨k, hk, rfl, HU⟩ := hrel
    by_cases hlt : k < zs.length
    case neg =>
      obtain rfl : k = zs.length := by omega
      by_cases hl : zs.length = n
      · have hl' : ((zs.length : Int) == (n : Int)) = true := by simp; omega
        have HL := Lib.hid hl; clear hl
        go_wp2_with fail
        go_ret
        exact ⟨ret_bool (by unfold permB; rw [rangeAll_true HU.out, decide_eq_true HL.out]; rfl), rfl⟩
      · have hl' : ((zs.length : Int) == (n : Int)) = false := by simp; omega
        have HL := Lib.hid hl; clear hl
        go_wp2_with fail
        go_ret
        exact ⟨ret_bool (by unfold permB; rw [decide_eq_false HL.out, Bool.and_false]), rfl⟩
    have HT := Lib.hid (F1.out.take k hk)
    obtain ⟨be, oe, rfl, _, hbe', xe, _⟩ := F1.out.opened hlt
    obtain ⟨x, HX⟩ : ∃ x, Hid (nth zs k = x) := ⟨_, Lib.hid rfl⟩
    rw [HX.out] at xe
    by_cases hin : inB x 0 ((n : Int) - 1) = true
    case neg =>
      have hin' : inB x 0 ((n : Int) - 1) = false := by simpa using hin
      have HI := Lib.hid hin'; clear hin
      go_wp2_with (go_at_call 70; refine (l1In_any _ _ _ _).mono ?_; rintro e w' ⟨rfl, rfl⟩)
      go_ret
      exact ⟨ret_bool (permB_bad hlt (by unfold permAt; rw [HX.out, HI.out]; rfl)).symm, rfl⟩
    have HI := Lib.hid hin
    cases hm : decide (x ∈ zs.take k) with
    | true =>
      have HM := Lib.hid hm; clear hm
      go_wp2_with (first | (go_at_call 70; refine (l1In_any _ _ _ _).mono ?_; rintro e w' ⟨rfl, rfl⟩) | (go_at_call 51; refine (l1Has_any _ (zs.take k) _ _ _ _ HT.out).mono ?_; rintro e w' ⟨rfl, rfl⟩; rw [HM.out]))
      go_ret
      exact ⟨ret_bool (permB_bad hlt (by unfold permAt; rw [HX.out, HM.out]; simp)).symm, rfl⟩
    | false =>
      have HM := Lib.hid hm; clear hm
      go_wp2_with (first | (go_at_call 70; refine (l1In_any _ _ _ _).mono ?_; rintro e w' ⟨rfl, rfl⟩) | (go_at_call 51; refine (l1Has_any _ (zs.take k) _ _ _ _ HT.out).mono ?_; rintro e w' ⟨rfl, rfl⟩; rw [HM.out]))
      go_round
      case rel =>
        refine ⟨k + 1, by omega, by go_num, Lib.hid fun j hj => ?_⟩
        by_cases e : j = k
        · rw [e]; unfold permAt; rw [HX.out, HI.out, HM.out]; rfl
        · exact HU.out j (by omega)
      case measure => simp [intOf]; omega

set_option maxHeartbeats 4000000 in
set_option maxRecDepth 100000 in
theorem isOrder_any (v1 : Value) (N : NetD) (lo1 hi1 : Nat) (v2 : Value) (zs : List Int) (lo2 hi2 : Nat) (w : World) (h1 : Net w lo1 hi1 v1 N) (hh1 : hi1 ≤ w.heap.size) (h2 : IntS w lo2 hi2 v2 zs) (hh2 : hi2 ≤ w.heap.size) (hsz : N.sz ≤ 1048576) :
    Calls Try.prog 40 #[v1, v2] w fun e w' => e = .returned (.bool (orderB N zs)) ∧ Below w.heap.size w w' := by
  have F1 := Lib.hid h1
  obtain ⟨A1, c1, A1', c1', A1'', c1'', rfl, hc1, hd1, _⟩ := h1.parts
  clear h1
  have F2 := Lib.hid h2
  obtain ⟨A2, c2, rfl, hc2, hd2⟩ := h2.dims
  clear h2
  obtain ⟨WA, HWA⟩ : ∃ W, Hid (W = (w.alloc (.cells #[.slice A1 N.ends.length c1, .slice A1' N.ids.length c1', .slice A1'' N.inputs.length c1''] 34))) := ⟨_, Lib.hid rfl⟩
  have hbA : Below w.heap.size w WA := by rw [HWA.out]; exact ((Below.refl _ _).alloc (Nat.le_refl _) _)
  have hsA : w.heap.size + 1 ≤ WA.heap.size := by rw [HWA.out]; simp; try omega
  have bx1 : BoxN WA (w.heap.size) #[.slice A1 N.ends.length c1, .slice A1' N.ids.length c1', .slice A1'' N.inputs.length c1''] 34 := by rw [HWA.out]; exact (BoxN.new' _ _ _ (by simp))
  have G1 := Lib.hid (Net.below F1.out hbA hh1); clear F1
  have G2 := Lib.hid (IntS.below F2.out hbA hh2); clear F2
  go_enter Try.func40, Try.ntmps40
  go_upto_region 1 with (fail)
  rw [← HWA.out]; clear HWA
  have kbx1_0 : WA.cell? ⟨w.heap.size, 0, none⟩ = some (.slice A1 N.ends.length c1) := bx1.cell 0 (by simp)
  have kbx1_1 : WA.cell? ⟨w.heap.size, 1, none⟩ = some (.slice A1' N.ids.length c1') := bx1.cell 1 (by simp)
  have kbx1_2 : WA.cell? ⟨w.heap.size, 2, none⟩ = some (.slice A1'' N.inputs.length c1'') := bx1.cell 2 (by simp)
  go_wp2_with fail
  clear kbx1_0 kbx1_1 kbx1_2
  refine (IsNetwork_any _ N lo1 hi1 _ G1.out (by omega) hsz).mono ?_
  rintro e W1 ⟨rfl, hb1⟩
  have hg1 := grown_below hb1; clear hb1
  have hs1 := hg1.size
  have HF1 := Lib.hid ((Turned.refl WA.heap.size WA.heap.size WA).still hg1)
  by_cases hg : N.good = true
  case neg =>
    have hg' : N.good = false := by simpa using hg
    rw [hg']
    have HG := Lib.hid hg'; clear hg hg'
    go_wp2_with fail
    go_ret
    exact ⟨ret_bool (by unfold orderB; rw [HG.out]; rfl), (HF1.out.below_of hbA (by omega) (by omega))⟩
  rw [hg]
  have HG := Lib.hid hg; clear hg
  obtain ⟨n1, n40⟩ := good_n HG.out
  have kbx1_0 : W1.cell? ⟨w.heap.size, 0, none⟩ = some (.slice A1 N.ends.length c1) := (HF1.out.boxN bx1 (by omega)).cell 0 (by simp)
  have kbx1_1 : W1.cell? ⟨w.heap.size, 1, none⟩ = some (.slice A1' N.ids.length c1') := (HF1.out.boxN bx1 (by omega)).cell 1 (by simp)
  have kbx1_2 : W1.cell? ⟨w.heap.size, 2, none⟩ = some (.slice A1'' N.inputs.length c1'') := (HF1.out.boxN bx1 (by omega)).cell 2 (by simp)
  go_wp2_with fail
  clear kbx1_0 kbx1_1 kbx1_2
  refine (isPermutation_any _ zs lo2 hi2 N.ends.length _ (IntS.turned G2.out HF1.out (by omega) (by omega)) (by omega) (by omega)).mono ?_
  rintro e W2 ⟨rfl, hb2⟩
  have hg2 := grown_below hb2; clear hb2
  have hs2 := hg2.size
  have HF2 := Lib.hid (HF1.out.still hg2); clear HF1
  go_wp2_with fail
  go_ret
  exact ⟨ret_bool (by unfold orderB; rw [HG.out]; rfl), (HF2.out.below_of hbA (by omega) (by omega))⟩

set_option maxHeartbeats 4000000 in
set_option maxRecDepth 100000 in
theorem ruOrder_any (v1 : Value) (N : NetD) (lo1 hi1 : Nat) (v2 : Value) (zs : List Int) (lo2 hi2 : Nat) (w : World) (h1 : Net w lo1 hi1 v1 N) (hh1 : hi1 ≤ w.heap.size) (h2 : IntS w lo2 hi2 v2 zs) (hh2 : hi2 ≤ w.heap.size) (hsz : N.sz ≤ 1048576) :
    Calls Try.prog 38 #[v1, v2] w fun e w' => e = .returned (.bool (orderB N zs)) ∧ Below w.heap.size w w' := by
  have F1 := Lib.hid h1
  obtain ⟨A1, c1, A1', c1', A1'', c1'', rfl, hc1, hd1, _⟩ := h1.parts
  clear h1
  have F2 := Lib.hid h2
  obtain ⟨A2, c2, rfl, hc2, hd2⟩ := h2.dims
  clear h2
  obtain ⟨WA, HWA⟩ : ∃ W, Hid (W = (w.alloc (.cells #[.slice A1 N.ends.length c1, .slice A1' N.ids.length c1', .slice A1'' N.inputs.length c1''] 34))) := ⟨_, Lib.hid rfl⟩
  have hbA : Below w.heap.size w WA := by rw [HWA.out]; exact ((Below.refl _ _).alloc (Nat.le_refl _) _)
  have hsA : w.heap.size + 1 ≤ WA.heap.size := by rw [HWA.out]; simp; try omega
  have bx1 : BoxN WA (w.heap.size) #[.slice A1 N.ends.length c1, .slice A1' N.ids.length c1', .slice A1'' N.inputs.length c1''] 34 := by rw [HWA.out]; exact (BoxN.new' _ _ _ (by simp))
  have G1 := Lib.hid (Net.below F1.out hbA hh1); clear F1
  have G2 := Lib.hid (IntS.below F2.out hbA hh2); clear F2
  go_enter Try.func38, Try.ntmps38
  go_upto_region 1 with (fail)
  rw [← HWA.out]; clear HWA
  have kbx1_0 : WA.cell? ⟨w.heap.size, 0, none⟩ = some (.slice A1 N.ends.length c1) := bx1.cell 0 (by simp)
  have kbx1_1 : WA.cell? ⟨w.heap.size, 1, none⟩ = some (.slice A1' N.ids.length c1') := bx1.cell 1 (by simp)
  have kbx1_2 : WA.cell? ⟨w.heap.size, 2, none⟩ = some (.slice A1'' N.inputs.length c1'') := bx1.cell 2 (by simp)
  go_wp2_with fail
  clear kbx1_0 kbx1_1 kbx1_2
  refine (neGood_any _ N lo1 hi1 _ G1.out (by omega) hsz).mono ?_
  rintro e W1 ⟨rfl, hb1⟩
  have hg1 := grown_below hb1; clear hb1
  have hs1 := hg1.size
  have HF1 := Lib.hid ((Turned.refl WA.heap.size WA.heap.size WA).still hg1)
  by_cases hg : N.good = true
  case neg =>
    have hg' : N.good = false := by simpa using hg
    rw [hg']
    have HG := Lib.hid hg'; clear hg hg'
    go_wp2_with fail
    go_ret
    exact ⟨ret_bool (by unfold orderB; rw [HG.out]; rfl), (HF1.out.below_of hbA (by omega) (by omega))⟩
  rw [hg]
  have HG := Lib.hid hg; clear hg
  obtain ⟨n1, n40⟩ := good_n HG.out
  have kbx1_0 : W1.cell? ⟨w.heap.size, 0, none⟩ = some (.slice A1 N.ends.length c1) := (HF1.out.boxN bx1 (by omega)).cell 0 (by simp)
  have kbx1_1 : W1.cell? ⟨w.heap.size, 1, none⟩ = some (.slice A1' N.ids.length c1') := (HF1.out.boxN bx1 (by omega)).cell 1 (by simp)
  have kbx1_2 : W1.cell? ⟨w.heap.size, 2, none⟩ = some (.slice A1'' N.inputs.length c1'') := (HF1.out.boxN bx1 (by omega)).cell 2 (by simp)
  go_wp2_with fail
  clear kbx1_0 kbx1_1 kbx1_2
  refine (nePerm_any _ zs lo2 hi2 N.ends.length _ (IntS.turned G2.out HF1.out (by omega) (by omega)) (by omega) (by omega)).mono ?_
  rintro e w' ⟨rfl, rfl⟩
  go_wp2_with fail
  go_ret
  exact ⟨ret_bool (by unfold orderB; rw [HG.out]; rfl), (HF1.out.below_of hbA (by omega) (by omega))⟩

end Go.Proofs.Ytcmmklcampmkjaa
