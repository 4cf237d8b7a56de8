/-
  Contracts: colours with few equal neighbours: the reference; both for the law.
-/
import Derived.Test.YtoebgfmnjjiddaaDef
namespace Go.Proofs.Ytoebgfmnjjiddaa
open Go.ChangeShapes Go.WideShapes Go.ChangeAt Go.RowKit
set_option linter.unusedVariables false

set_option maxHeartbeats 1000000 in
set_option maxRecDepth 100000 in
theorem ruSame_any (v1 : Value) (N : NetD) (lo1 hi1 : Nat) (v2 : Value) (l : List Int) (lo2 hi2 : Nat) (v : Nat) (c : Int) (w : World) (h1 : Net w lo1 hi1 v1 N) (hh1 : hi1 ≤ w.heap.size) (h2 : IntS w lo2 hi2 v2 l) (hh2 : hi2 ≤ w.heap.size) (hg : N.good = true) (hv : v < N.ends.length) (hl : l.length = N.ends.length) :
    Calls Try.prog 102 #[v1, v2, .int .i64 (v : Nat), .int .i64 c] w fun e w' => e = .returned (.int .i64 (portsC N v l c)) ∧ Below w.heap.size w w' := by
  obtain ⟨n1, n40⟩ := good_n hg
  have HG := Lib.hid hg; clear hg
  have hd6 := good_deg HG.out hv
  have HL := Lib.hid hl; clear hl
  have F1 := Lib.hid h1
  obtain ⟨A1, c1, A1', c1', A1'', c1'', rfl, hc1, hd1, _⟩ := h1.parts
  obtain ⟨b1, o1, _, _, rfl, _⟩ := Net.rowAt F1.out (u := 0) (by omega)
  clear h1
  have F2 := Lib.hid h2
  obtain ⟨A2, c2, rfl, hc2, hd2⟩ := h2.dims
  clear h2
  obtain ⟨WA, HWA⟩ : ∃ W, Hid (W = (w.alloc (.cells #[.slice (some ⟨b1, o1, none⟩) N.ends.length c1, .slice A1' N.ids.length c1', .slice A1'' N.inputs.length c1''] 33))) := ⟨_, Lib.hid rfl⟩
  have hbA : Below w.heap.size w WA := by rw [HWA.out]; exact ((Below.refl _ _).alloc (Nat.le_refl _) _)
  have hsA : w.heap.size + 1 ≤ WA.heap.size := by rw [HWA.out]; simp; try omega
  have bx1 : BoxN WA (w.heap.size) #[.slice (some ⟨b1, o1, none⟩) N.ends.length c1, .slice A1' N.ids.length c1', .slice A1'' N.inputs.length c1''] 33 := by rw [HWA.out]; exact (BoxN.new' _ _ _ (by simp))
  have G1 := Lib.hid (Net.below F1.out hbA hh1); clear F1
  have G2 := Lib.hid (IntS.below F2.out hbA hh2); clear F2
  go_enter Try.func102, Try.ntmps102
  go_upto_region 1 with (fail)
  rw [← HWA.out]; clear HWA
  have kbx1_0 : WA.cell? ⟨w.heap.size, 0, none⟩ = some (.slice (some ⟨b1, o1, none⟩) N.ends.length c1) := bx1.cell 0 (by simp)
  have kbx1_1 : WA.cell? ⟨w.heap.size, 1, none⟩ = some (.slice A1' N.ids.length c1') := bx1.cell 1 (by simp)
  have kbx1_2 : WA.cell? ⟨w.heap.size, 2, none⟩ = some (.slice A1'' N.inputs.length c1'') := bx1.cell 2 (by simp)
  go_wp2_with fail
  clear kbx1_0 kbx1_1 kbx1_2
  refine (neNear_any _ N v lo1 hi1 _ G1.out (by omega) hv (by omega)).mono ?_
  rintro e W1 ⟨r, rfl, hr, hb1⟩
  have hg1 := grown_below hb1; clear hb1
  have hs1 := hg1.size
  have HF1 := Lib.hid ((Turned.refl WA.heap.size WA.heap.size WA).still hg1)
  have R1 := Lib.hid hr; clear hr
  obtain ⟨Ar, cr, rfl, hcr, hdr⟩ := R1.out.dims
  rw [nbs_length] at hcr ⊢
  go_wp2_with fail
  go_loop [16, 9] (fun i cv => ∃ (m k : Nat), m ≤ (nthL N.ends v).length ∧ i = .int .i64 m ∧ cv = .int .i64 k ∧ k ≤ m ∧ Hid (k = cntI c ((nears N v l).take m))) (fun i cv => (nthL N.ends v).length - (intOf i).toNat)
  case atStart => exact ⟨0, 0, Nat.zero_le _, rfl, rfl, Nat.le_refl _, Lib.hid rfl⟩
  case round =>
    obtain ⟨m, k, hm, rfl, rfl, hk, HK⟩ := hrel
    by_cases hml : m < (nthL N.ends v).length
    case neg =>
      obtain rfl : m = (nthL N.ends v).length := by omega
      go_wp2_with fail
      go_ret
      exact ⟨ret_int (by rw [HK.out, ← nears_length N v l, List.take_length]; rfl), (HF1.out.below_of hbA (by omega) (by omega))⟩
    obtain ⟨b3, o3, rfl, _, _, x3, _⟩ := IntS.opened R1.out (j := m) (by rw [nbs_length]; exact hml)
    obtain ⟨t, r, et, ht, hr, _⟩ := good_end HG.out hv hml
    rw [nth_nbs N v hml, et] at x3
    dsimp only at x3
    obtain ⟨b4, o4, rfl, _, _, y3, _⟩ := IntS.opened (IntS.turned G2.out HF1.out (by omega) (by omega)) (j := t) (by rw [HL.out]; exact ht)
    have HT := Lib.hid (show cntI c ((nears N v l).take (m + 1)) = cntI c ((nears N v l).take m) + if nth l t = c then 1 else 0 by rw [cntI_take (by rw [nears_length]; exact hml), nth_nears l hml, et]; rfl)
    obtain ⟨y, HY⟩ : ∃ y, Hid (nth l t = y) := ⟨_, Lib.hid rfl⟩
    rw [HY.out] at y3 HT
    have hti : (t : Int) < l.length := by rw [HL.out]; omega
    clear et
    by_cases hy : y = c
    case pos =>
      have hy' : (y == c) = true := by simpa using hy
      have HY1 := Lib.hid hy; clear hy
      go_wp2_with fail
      go_round
      case rel => exact ⟨m + 1, k + 1, by omega, by go_num, by go_num, by omega, Lib.hid (by rw [HT.out, ← HK.out, if_pos HY1.out])⟩
      case measure => simp [intOf]; omega
    case neg =>
      have hy' : (y == c) = false := by simpa using hy
      have HY1 := Lib.hid hy; clear hy
      go_wp2_with fail
      go_round
      case rel => exact ⟨m + 1, k, by omega, by go_num, by go_num, by omega, Lib.hid (by rw [HT.out, ← HK.out, if_neg HY1.out]; rfl)⟩
      case measure => simp [intOf]; omega

set_option maxHeartbeats 1000000 in
set_option maxRecDepth 100000 in
theorem ruPlain_any (v1 : Value) (N : NetD) (lo1 hi1 : Nat) (w : World) (h1 : Net w lo1 hi1 v1 N) (hh1 : hi1 ≤ w.heap.size) (hg : N.good = true) :
    Calls Try.prog 99 #[v1] w fun e w' => e = .returned (.bool (noLoop N)) ∧ Below w.heap.size w w' := by
  obtain ⟨n1, n40⟩ := good_n hg
  have HG := Lib.hid hg; clear hg
  have F1 := Lib.hid h1
  obtain ⟨A1, c1, A1', c1', A1'', c1'', rfl, hc1, hd1, _⟩ := h1.parts
  obtain ⟨b1, o1, _, _, rfl, _⟩ := Net.rowAt F1.out (u := 0) (by omega)
  clear h1
  obtain ⟨WA, HWA⟩ : ∃ W, Hid (W = (w.alloc (.cells #[.slice (some ⟨b1, o1, none⟩) N.ends.length c1, .slice A1' N.ids.length c1', .slice A1'' N.inputs.length c1''] 33))) := ⟨_, Lib.hid rfl⟩
  have hbA : Below w.heap.size w WA := by rw [HWA.out]; exact ((Below.refl _ _).alloc (Nat.le_refl _) _)
  have hsA : w.heap.size + 1 ≤ WA.heap.size := by rw [HWA.out]; simp; try omega
  have bx1 : BoxN WA (w.heap.size) #[.slice (some ⟨b1, o1, none⟩) N.ends.length c1, .slice A1' N.ids.length c1', .slice A1'' N.inputs.length c1''] 33 := by rw [HWA.out]; exact (BoxN.new' _ _ _ (by simp))
  have G1 := Lib.hid (Net.below F1.out hbA hh1); clear F1
  go_enter Try.func99, Try.ntmps99
  go_upto_region 1 with (fail)
  rw [← HWA.out]; clear HWA
  have kbx1_0 : WA.cell? ⟨w.heap.size, 0, none⟩ = some (.slice (some ⟨b1, o1, none⟩) N.ends.length c1) := bx1.cell 0 (by simp)
  have kbx1_1 : WA.cell? ⟨w.heap.size, 1, none⟩ = some (.slice A1' N.ids.length c1') := bx1.cell 1 (by simp)
  have kbx1_2 : WA.cell? ⟨w.heap.size, 2, none⟩ = some (.slice A1'' N.inputs.length c1'') := bx1.cell 2 (by simp)
  go_wp2_with fail
  clear kbx1_0 kbx1_1 kbx1_2
  go_loopw [7] (fun i wr => ∃ (k : Nat), k ≤ N.ends.length ∧ i = .int .i64 k ∧ Hid (∀ j, j < k → (!decide ((j : Int) ∈ nbs N j)) = true) ∧ Hid (Turned WA.heap.size WA.heap.size WA wr)) (fun i _ => N.ends.length - (intOf i).toNat)
  case atStart => exact ⟨0, Nat.zero_le _, rfl, Lib.hid fun j hj => absurd hj (by omega), Lib.hid (Turned.refl WA.heap.size WA.heap.size WA)⟩
  case round =>
    obtain ⟨k, hk, rfl, HU, HF1⟩ := hrel
    have hs1 := HF1.out.size
    by_cases hlt : k < N.ends.length
    case neg =>
      obtain rfl : k = N.ends.length := by omega
      go_wp2_with fail
      go_ret
      exact ⟨ret_bool (rangeAll_true HU.out).symm, (HF1.out.below_of hbA (by omega) (by omega))⟩
    have hd6 := good_deg HG.out hlt
    have kbx1_0 : wr.cell? ⟨w.heap.size, 0, none⟩ = some (.slice (some ⟨b1, o1, none⟩) N.ends.length c1) := (HF1.out.boxN bx1 (by omega)).cell 0 (by simp)
    have kbx1_1 : wr.cell? ⟨w.heap.size, 1, none⟩ = some (.slice A1' N.ids.length c1') := (HF1.out.boxN bx1 (by omega)).cell 1 (by simp)
    have kbx1_2 : wr.cell? ⟨w.heap.size, 2, none⟩ = some (.slice A1'' N.inputs.length c1'') := (HF1.out.boxN bx1 (by omega)).cell 2 (by simp)
    go_wp2_with fail
    clear kbx1_0 kbx1_1 kbx1_2
    refine (neNear_any _ N k lo1 hi1 _ (Net.turned G1.out HF1.out (by omega) (by omega)) (by omega) hlt (by omega)).mono ?_
    rintro e W2 ⟨r, rfl, hr, hb2⟩
    have hg2 := grown_below hb2; clear hb2
    have hs2 := hg2.size
    have HF2 := Lib.hid (HF1.out.still hg2); clear HF1
    have R2 := Lib.hid hr; clear hr
    obtain ⟨Ar, cr, rfl, hcr, hdr⟩ := R2.out.dims
    cases hm : decide ((k : Int) ∈ nbs N k) with
    | true =>
      have HM := Lib.hid hm; clear hm
      go_wp2_with (go_at_call 94; refine (l1Has_any _ (nbs N k) _ _ _ _ R2.out).mono ?_; rintro e w' ⟨rfl, rfl⟩; rw [HM.out])
      go_ret
      exact ⟨ret_bool (rangeAll_false hlt (by rw [HM.out]; rfl)).symm, (HF2.out.below_of hbA (by omega) (by omega))⟩
    | false =>
      have HM := Lib.hid hm; clear hm
      go_wp2_with (go_at_call 94; refine (l1Has_any _ (nbs N k) _ _ _ _ R2.out).mono ?_; rintro e w' ⟨rfl, rfl⟩; rw [HM.out])
      go_roundw
      case rel =>
        refine ⟨k + 1, by omega, by go_num, Lib.hid fun j hj => ?_, HF2⟩
        by_cases e : j = k
        · rw [e, HM.out]; rfl
        · exact HU.out j (by omega)
      case measure => simp [intOf]; omega

set_option maxHeartbeats 1000000 in
set_option maxRecDepth 100000 in
theorem ruCrowded_any (v1 : Value) (N : NetD) (lo1 hi1 : Nat) (v2 : Value) (l : List Int) (lo2 hi2 : Nat) (k : Nat) (w : World) (h1 : Net w lo1 hi1 v1 N) (hh1 : hi1 ≤ w.heap.size) (h2 : IntS w lo2 hi2 v2 l) (hh2 : hi2 ≤ w.heap.size) (hg : N.good = true) (hl : l.length = N.ends.length) (hk1 : 1 ≤ k) (hk2 : k ≤ 10) :
    Calls Try.prog 101 #[v1, v2, .int .i64 (k : Nat)] w fun e w' => e = .returned (.int .i64 (crowd N k l)) ∧ Below w.heap.size w w' := by
  obtain ⟨n1, n40⟩ := good_n hg
  have HG := Lib.hid hg; clear hg
  have HL := Lib.hid hl
  have hle : l.length ≤ N.ends.length := by omega
  have hle2 : N.ends.length ≤ l.length := by omega
  clear hl
  have F1 := Lib.hid h1
  obtain ⟨A1, c1, A1', c1', A1'', c1'', rfl, hc1, hd1, _⟩ := h1.parts
  obtain ⟨b1, o1, _, _, rfl, _⟩ := Net.rowAt F1.out (u := 0) (by omega)
  clear h1
  have F2 := Lib.hid h2
  obtain ⟨A2, c2, rfl, hc2, hd2⟩ := h2.dims
  clear h2
  obtain ⟨WA, HWA⟩ : ∃ W, Hid (W = (w.alloc (.cells #[.slice (some ⟨b1, o1, none⟩) N.ends.length c1, .slice A1' N.ids.length c1', .slice A1'' N.inputs.length c1''] 33))) := ⟨_, Lib.hid rfl⟩
  have hbA : Below w.heap.size w WA := by rw [HWA.out]; exact ((Below.refl _ _).alloc (Nat.le_refl _) _)
  have hsA : w.heap.size + 1 ≤ WA.heap.size := by rw [HWA.out]; simp; try omega
  have bx1 : BoxN WA (w.heap.size) #[.slice (some ⟨b1, o1, none⟩) N.ends.length c1, .slice A1' N.ids.length c1', .slice A1'' N.inputs.length c1''] 33 := by rw [HWA.out]; exact (BoxN.new' _ _ _ (by simp))
  have G1 := Lib.hid (Net.below F1.out hbA hh1); clear F1
  have G2 := Lib.hid (IntS.below F2.out hbA hh2); clear F2
  go_enter Try.func101, Try.ntmps101
  go_upto_region 1 with (fail)
  rw [← HWA.out]; clear HWA
  go_wp2_with fail
  go_loopw [11] (fun i wr => ∃ (m : Nat), m ≤ l.length ∧ i = .int .i64 m ∧ Hid (∀ j, j < m → crowdAt N k l j = false) ∧ Hid (Turned WA.heap.size WA.heap.size WA wr)) (fun i _ => l.length - (intOf i).toNat)
  case atStart => exact ⟨0, Nat.zero_le _, rfl, Lib.hid fun j hj => absurd hj (by omega), Lib.hid (Turned.refl WA.heap.size WA.heap.size WA)⟩
  case round =>
    obtain ⟨m, hm, rfl, HU, HF1⟩ := hrel
    have hs1 := HF1.out.size
    by_cases hlt : m < l.length
    case neg =>
      obtain rfl : m = l.length := by omega
      go_wp2_with fail
      go_ret
      exact ⟨ret_int (by unfold crowd; rw [fidxN_none (fun j hj => HU.out j (by omega))]), (HF1.out.below_of hbA (by omega) (by omega))⟩
    have hmn : m < N.ends.length := by omega
    have hd6 := good_deg HG.out hmn
    obtain ⟨b3, o3, rfl, _, hb3, x3, _⟩ := IntS.opened (IntS.turned G2.out HF1.out (by omega) (by omega)) (j := m) hlt
    obtain ⟨Ar, cr, hbr, qr, hcr, hdr, hRr⟩ := Net.rowIn G1.out hmn
    replace qr := (HF1.out.cell (by omega) (by omega)).trans qr
    have Rr := Lib.hid hRr; clear hRr
    have hmi : (m : Int) < N.ends.length := by omega
    have hki : ((k : Int) == 0) = false := by simp; omega
    obtain ⟨d, HD⟩ : ∃ x, Hid ((nthL N.ends m).length = x) := ⟨_, Lib.hid rfl⟩
    obtain ⟨c, HC⟩ : ∃ x, Hid (nth l m = x) := ⟨_, Lib.hid rfl⟩
    obtain ⟨pc, HPC⟩ : ∃ x, Hid (portsC N m l c = x) := ⟨_, Lib.hid rfl⟩
    rw [HC.out] at x3
    rw [HD.out] at qr hcr hd6
    have htd := tdiv_nat d k
    have hdk : d / k ≤ d := Nat.div_le_self _ _
    obtain ⟨dq, HDQ⟩ : ∃ x, Hid (d / k = x) := ⟨_, Lib.hid rfl⟩
    rw [HDQ.out] at htd hdk
    have hwq : IntKind.i64.wrap (dq : Int) = (dq : Int) := IntWalk.i64_in _ (by omega)
    have HR := Lib.hid (show crowdAt N k l m = decide (dq < pc) by rw [crowdAt_col HC.out, HPC.out, HD.out, HDQ.out])
    go_wp2_with fail
    have e6 : ∀ p, (ext wr p).cell? ⟨b1, o1 + m, none⟩ = some (.slice Ar d cr) := ext_cell wr (a := ⟨b1, o1 + m, none⟩) (by show b1 < _; omega) qr
    by_cases hcp : dq < pc
    case pos =>
      have hcp' : decide ((dq : Int) < (pc : Int)) = true := decide_eq_true (by omega)
      have hcp2 : (dq : Int) < (pc : Int) := by omega
      have ebx1_0 : ∀ p, (ext wr p).cell? ⟨w.heap.size, 0, none⟩ = some (.slice (some ⟨b1, o1, none⟩) N.ends.length c1) := ext_cell wr (a := ⟨w.heap.size, 0, none⟩) ((HF1.out.boxN bx1 (by omega))).lt ((HF1.out.boxN bx1 (by omega)).cell 0 (by simp))
      have ebx1_1 : ∀ p, (ext wr p).cell? ⟨w.heap.size, 1, none⟩ = some (.slice A1' N.ids.length c1') := ext_cell wr (a := ⟨w.heap.size, 1, none⟩) ((HF1.out.boxN bx1 (by omega))).lt ((HF1.out.boxN bx1 (by omega)).cell 1 (by simp))
      have ebx1_2 : ∀ p, (ext wr p).cell? ⟨w.heap.size, 2, none⟩ = some (.slice A1'' N.inputs.length c1'') := ext_cell wr (a := ⟨w.heap.size, 2, none⟩) ((HF1.out.boxN bx1 (by omega))).lt ((HF1.out.boxN bx1 (by omega)).cell 2 (by simp))
      refine wp_region_ext (by kernel_rfl) (by kernel_rfl) ?_
      repeat (go_big_quiet_step ((first | (go_at_call 102; exact ext_call ((ruSame_any _ N lo1 hi1 _ l lo2 hi2 m c _ (Net.below (Net.turned G1.out HF1.out (by omega) (by omega)) (ext_below _ _) (by omega)) (Nat.le_trans (by omega) (ext_size _ _)) (IntS.below (IntS.turned G2.out HF1.out (by omega) (by omega)) (ext_below _ _) (by omega)) (Nat.le_trans (by omega) (ext_size _ _)) HG.out hmn HL.out).mono fun e w' ⟨he, hb⟩ => ⟨by rw [he, HPC.out], hb⟩)))))
      refine wpQuiet_nil ?_
      rintro w1 ⟨p, rfl⟩
      clear ebx1_0 ebx1_1 ebx1_2
      obtain ⟨W2, HW2⟩ : ∃ W, Hid (W = ext wr p) := ⟨_, Lib.hid rfl⟩
      rw [← HW2.out]
      have hg2 : wr.grownBy W2 none := by rw [HW2.out]; exact grown_below (ext_below _ _)
      clear HW2
      have hs2 := hg2.size
      have HF2 := Lib.hid (HF1.out.still hg2); clear HF1
      clear e6
      go_wp2_with fail
      go_ret
      exact ⟨ret_int (by unfold crowd; rw [fidxN_hit hmn (by rw [HR.out, decide_eq_true hcp]) HU.out]), (HF2.out.below_of hbA (by omega) (by omega))⟩
    have hcp' : decide ((dq : Int) < (pc : Int)) = false := decide_eq_false (by omega)
    have hcp2 : ¬ (dq : Int) < (pc : Int) := by omega
    have ebx1_0 : ∀ p, (ext wr p).cell? ⟨w.heap.size, 0, none⟩ = some (.slice (some ⟨b1, o1, none⟩) N.ends.length c1) := ext_cell wr (a := ⟨w.heap.size, 0, none⟩) ((HF1.out.boxN bx1 (by omega))).lt ((HF1.out.boxN bx1 (by omega)).cell 0 (by simp))
    have ebx1_1 : ∀ p, (ext wr p).cell? ⟨w.heap.size, 1, none⟩ = some (.slice A1' N.ids.length c1') := ext_cell wr (a := ⟨w.heap.size, 1, none⟩) ((HF1.out.boxN bx1 (by omega))).lt ((HF1.out.boxN bx1 (by omega)).cell 1 (by simp))
    have ebx1_2 : ∀ p, (ext wr p).cell? ⟨w.heap.size, 2, none⟩ = some (.slice A1'' N.inputs.length c1'') := ext_cell wr (a := ⟨w.heap.size, 2, none⟩) ((HF1.out.boxN bx1 (by omega))).lt ((HF1.out.boxN bx1 (by omega)).cell 2 (by simp))
    refine wp_region_ext (by kernel_rfl) (by kernel_rfl) ?_
    repeat (go_big_quiet_step ((first | (go_at_call 102; exact ext_call ((ruSame_any _ N lo1 hi1 _ l lo2 hi2 m c _ (Net.below (Net.turned G1.out HF1.out (by omega) (by omega)) (ext_below _ _) (by omega)) (Nat.le_trans (by omega) (ext_size _ _)) (IntS.below (IntS.turned G2.out HF1.out (by omega) (by omega)) (ext_below _ _) (by omega)) (Nat.le_trans (by omega) (ext_size _ _)) HG.out hmn HL.out).mono fun e w' ⟨he, hb⟩ => ⟨by rw [he, HPC.out], hb⟩)))))
    refine wpQuiet_nil ?_
    rintro w1 ⟨p, rfl⟩
    clear ebx1_0 ebx1_1 ebx1_2
    obtain ⟨W3, HW3⟩ : ∃ W, Hid (W = ext wr p) := ⟨_, Lib.hid rfl⟩
    rw [← HW3.out]
    have hg3 : wr.grownBy W3 none := by rw [HW3.out]; exact grown_below (ext_below _ _)
    clear HW3
    have hs3 := hg3.size
    have HF3 := Lib.hid (HF1.out.still hg3); clear HF1
    clear e6
    go_wp2_with fail
    go_roundw
    case rel =>
      refine ⟨m + 1, by omega, by go_num, Lib.hid fun j hj => ?_, HF3⟩
      by_cases e : j = m
      · rw [e, HR.out, decide_eq_false hcp]
      · exact HU.out j (by omega)
    case measure => simp [intOf]; omega

set_option maxHeartbeats 1000000 in
set_option maxRecDepth 100000 in
theorem Def_spec_yes (v1 : Value) (N : NetD) (lo1 hi1 : Nat) (k : Nat) (w : World) (h1 : Net w lo1 hi1 v1 N) (hh1 : hi1 ≤ w.heap.size) (hz1 : N.sz ≤ 1048576) (hk1 : 1 ≤ k) (hk2 : k ≤ 10) :
    Calls Try.prog 45 #[v1, .int .i64 (k : Nat)] w fun e w' => ∃ r, e = .returned (.tuple #[r, .int .i64 (defSt N k : Nat), .bool (defOk N k)]) ∧ IntS w' w.heap.size w'.heap.size r (defOut N k) ∧ Below w.heap.size w w' := by
  have hin : inB (k : Int) 1 10 = true := inB_true (by omega) (by omega)
  have HIN := Lib.hid hin
  have F1 := Lib.hid h1
  obtain ⟨A1, c1, A1', c1', A1'', c1'', rfl, hc1, hd1, _⟩ := h1.parts
  clear h1
  obtain ⟨WA, HWA⟩ : ∃ W, Hid (W = (w.alloc (.cells #[.slice A1 N.ends.length c1, .slice A1' N.ids.length c1', .slice A1'' N.inputs.length c1''] 33))) := ⟨_, Lib.hid rfl⟩
  have hbA : Below w.heap.size w WA := by rw [HWA.out]; exact ((Below.refl _ _).alloc (Nat.le_refl _) _)
  have hsA : w.heap.size + 1 ≤ WA.heap.size := by rw [HWA.out]; simp; try omega
  have bx1 : BoxN WA (w.heap.size) #[.slice A1 N.ends.length c1, .slice A1' N.ids.length c1', .slice A1'' N.inputs.length c1''] 33 := by rw [HWA.out]; exact (BoxN.new' _ _ _ (by simp))
  have G1 := Lib.hid (Net.below F1.out hbA hh1); clear F1
  go_enter Try.func45, Try.ntmps45
  go_upto_region 1 with (fail)
  rw [← HWA.out]; clear HWA
  have kbx1_0 : WA.cell? ⟨w.heap.size, 0, none⟩ = some (.slice A1 N.ends.length c1) := bx1.cell 0 (by simp)
  have kbx1_1 : WA.cell? ⟨w.heap.size, 1, none⟩ = some (.slice A1' N.ids.length c1') := bx1.cell 1 (by simp)
  have kbx1_2 : WA.cell? ⟨w.heap.size, 2, none⟩ = some (.slice A1'' N.inputs.length c1'') := bx1.cell 2 (by simp)
  go_wp2_with fail
  clear kbx1_0 kbx1_1 kbx1_2
  refine (neGood_any _ N lo1 hi1 _ G1.out (by omega) hz1).mono ?_
  rintro e W1 ⟨rfl, hb1⟩
  have hg1 := grown_below hb1; clear hb1
  have hs1 := hg1.size
  have HF1 := Lib.hid ((Turned.refl WA.heap.size WA.heap.size WA).still hg1)
  by_cases hg : N.good = true
  case neg =>
    have hg' : N.good = false := by simpa using hg
    rw [hg']
    have HG := Lib.hid hg'; clear hg hg'
    go_wp2_with fail
    go_ret3
    exact ⟨_, ret_rib (by rw [(defNo (show defOk N k = false by unfold defOk; rw [HG.out]; rfl)).2]; rfl) (show defOk N k = false by unfold defOk; rw [HG.out]; rfl).symm, by rw [(defNo (show defOk N k = false by unfold defOk; rw [HG.out]; rfl)).1]; exact IntS.nil _ _ _, (HF1.out.below_of hbA (by omega) (by omega))⟩
  rw [hg]
  have HG := Lib.hid hg; clear hg
  obtain ⟨n1, n40⟩ := good_n HG.out
  obtain ⟨b1, o1, _, _, rfl, _⟩ := Net.rowAt (Net.turned G1.out HF1.out (by omega) (by omega)) (u := 0) (by omega)
  have kbx1_0 : W1.cell? ⟨w.heap.size, 0, none⟩ = some (.slice (some ⟨b1, o1, none⟩) N.ends.length c1) := (HF1.out.boxN bx1 (by omega)).cell 0 (by simp)
  have kbx1_1 : W1.cell? ⟨w.heap.size, 1, none⟩ = some (.slice A1' N.ids.length c1') := (HF1.out.boxN bx1 (by omega)).cell 1 (by simp)
  have kbx1_2 : W1.cell? ⟨w.heap.size, 2, none⟩ = some (.slice A1'' N.inputs.length c1'') := (HF1.out.boxN bx1 (by omega)).cell 2 (by simp)
  go_wp2_with fail
  clear kbx1_0 kbx1_1 kbx1_2
  refine (ruPlain_any _ N lo1 hi1 _ (Net.turned G1.out HF1.out (by omega) (by omega)) (by omega) HG.out).mono ?_
  rintro e W2 ⟨rfl, hb2⟩
  have hg2 := grown_below hb2; clear hb2
  have hs2 := hg2.size
  have HF2 := Lib.hid (HF1.out.still hg2); clear HF1
  cases hn : noLoop N with
  | false =>
    have HN := Lib.hid (show defOk N k = false by unfold defOk; rw [HG.out, hn]; simp)
    clear hn
    go_wp2_with fail
    go_ret3
    exact ⟨_, ret_rib (by rw [(defNo (HN.out)).2]; rfl) (HN.out).symm, by rw [(defNo (HN.out)).1]; exact IntS.nil _ _ _, (HF2.out.below_of hbA (by omega) (by omega))⟩
  | true =>
    have HNL := Lib.hid hn
    have HOK := Lib.hid (show defOk N k = true by unfold defOk; rw [HG.out, HIN.out, HNL.out]; rfl)
    clear hn
    have hmk := fun W => run_make_row' (P := Try.prog) 23 3 (.int .i64 0) 8 Try.underlying23 Try.info3 rfl .i64 .i64 N.ends.length (by omega) (by omega) W
    have kbx1_0 : W2.cell? ⟨w.heap.size, 0, none⟩ = some (.slice (some ⟨b1, o1, none⟩) N.ends.length c1) := (HF2.out.boxN bx1 (by omega)).cell 0 (by simp)
    have kbx1_1 : W2.cell? ⟨w.heap.size, 1, none⟩ = some (.slice A1' N.ids.length c1') := (HF2.out.boxN bx1 (by omega)).cell 1 (by simp)
    have kbx1_2 : W2.cell? ⟨w.heap.size, 2, none⟩ = some (.slice A1'' N.inputs.length c1'') := (HF2.out.boxN bx1 (by omega)).cell 2 (by simp)
    go_upto_region 4 with (go_at_call 100; refine (l1In_any _ _ _ _).mono ?_; rintro e w' ⟨rfl, rfl⟩; rw [hin])
    clear kbx1_0 kbx1_1 kbx1_2 hmk hin
    refine nameC ?_
    intro W3 HW3
    have hg3 : W2.grownBy W3 none := by rw [HW3.out]; exact grown_alloc _ _
    have hs3 := hg3.size
    have HF3 := Lib.hid (HF2.out.still hg3); clear HF2
    have HO := Lib.hid (show IntS W3 W2.heap.size (W2.heap.size + 1) (.slice (some ⟨W2.heap.size, 0, none⟩) N.ends.length N.ends.length) (def0 N) by rw [HW3.out]; exact made_ints _ _ _ rfl (by omega))
    have hz : W2.heap.size + 1 ≤ W3.heap.size := by rw [HW3.out]; simp
    clear HW3
    have N_3 := Lib.hid (Net.turned G1.out HF3.out (by omega) (by omega)); clear G1
    have bx1_3 := HF3.out.boxN bx1 (by omega); clear bx1
    have hbA3 := (HF3.out.below_of hbA (by omega) (by omega)); clear hbA HF3
    have kbx1_0 : W3.cell? ⟨w.heap.size, 0, none⟩ = some (.slice (some ⟨b1, o1, none⟩) N.ends.length c1) := bx1_3.cell 0 (by simp)
    have kbx1_1 : W3.cell? ⟨w.heap.size, 1, none⟩ = some (.slice A1' N.ids.length c1') := bx1_3.cell 1 (by simp)
    have kbx1_2 : W3.cell? ⟨w.heap.size, 2, none⟩ = some (.slice A1'' N.inputs.length c1'') := bx1_3.cell 2 (by simp)
    go_wp2_with fail
    clear kbx1_0 kbx1_1 kbx1_2
    refine (ruCrowded_any _ N lo1 hi1 _ (def0 N) _ _ k _ N_3.out (by omega) HO.out (by omega) HG.out (by simp [def0]) hk1 hk2).mono ?_
    rintro e W4 ⟨rfl, hb4⟩
    have hg4 := grown_below hb4; clear hb4
    have hs4 := hg4.size
    have HF4 := Lib.hid ((Turned.refl W2.heap.size (W2.heap.size + 1) W3).still hg4)
    have O4 := Lib.hid (IntS.still HO.out hg4 (by omega)); clear HO
    go_wp2_with fail
    go_loopw [8, 9] (fun sv vv wr => ∃ (s : Nat) (l : List Int), sv = .int .i64 s ∧ vv = .int .i64 (crowd N k l) ∧ Hid (IntS wr W2.heap.size (W2.heap.size + 1) (.slice (some ⟨W2.heap.size, 0, none⟩) N.ends.length N.ends.length) l) ∧ Hid (DTop N k s l) ∧ W2.heap.size + 1 ≤ wr.heap.size ∧ Hid (Turned W2.heap.size (W2.heap.size + 1) W3 wr)) (fun sv vv _ => 241 - (intOf sv).toNat)
    case atStart => exact ⟨0, def0 N, rfl, rfl, O4, Lib.hid (DTop.zero HG.out (by omega)), by omega, HF4⟩
    case round =>
      clear HF4
      obtain ⟨s, l, rfl, rfl, HO, HT, hz, HF5⟩ := hrel
      have hs5 := HF5.out.size
      have hlen := HT.out.len
      have hpot := HT.out.pot
      rcases fidxN_cases (crowdAt N k l) N.ends.length with ⟨e, _⟩ | ⟨v, hv, e, hp, _⟩
      case inl =>
        have E := Lib.hid (HT.out.stop e)
        rw [show crowd N k l = -1 from e]
        clear e
        go_wp2_with fail
        go_ret3
        refine ⟨_, ret_rib (by rw [(defYes HOK.out).2, E.out.2]) HOK.out.symm, ?_, (HF5.out.below_of hbA3 (by omega) (by omega))⟩
        rw [(defYes HOK.out).1, E.out.1]
        exact HO.out.mono (by omega) (by omega)
      have HT2 := Lib.hid (HT.out.step HG.out HNL.out (by omega) hv e hp)
      rw [show crowd N k l = (v : Int) from e]
      clear e hp
      have hvi : (v : Int) < N.ends.length := by omega
      have hpot2 := HT2.out.pot
      have hlen2 := HT2.out.len
      obtain ⟨wo, rfl⟩ : ∃ wo : World, wo = wr := ⟨_, rfl⟩
      go_wp2_with fail
      go_loopw [11, 10] (fun c bv wi => ∃ (j b : Nat), j ≤ k ∧ c = .int .i64 j ∧ bv = .int .i64 b ∧ b ≤ 9 ∧ Hid (b = bestC N v l j) ∧ Hid (IntS wi W2.heap.size (W2.heap.size + 1) (.slice (some ⟨W2.heap.size, 0, none⟩) N.ends.length N.ends.length) l) ∧ W2.heap.size + 1 ≤ wi.heap.size ∧ Hid (Turned W2.heap.size (W2.heap.size + 1) W3 wi)) (fun c bv _ => k - (intOf c).toNat)
      case atStart => exact ⟨0, 0, Nat.zero_le _, rfl, rfl, by omega, Lib.hid rfl, HO, hz, HF5⟩
      case round =>
        clear HF5
        obtain ⟨j, b, hj2, rfl, rfl, hb, HB, HO, hz, HF6⟩ := hrel
        have hs6 := HF6.out.size
        by_cases hlt : j < k
        case pos =>
          have HST := Lib.hid (show bestC N v l (j + 1) = if portsC N v l (j : Int) < portsC N v l (b : Int) then j else b by rw [bestC, ← HB.out])
          have hjk : (j : Int) < (k : Int) := by omega
          go_wp2_with fail
          by_cases hpp : portsC N v l (j : Int) < portsC N v l (b : Int)
          case pos =>
            have hpp' : decide ((portsC N v l (j : Int) : Int) < (portsC N v l (b : Int) : Int)) = true := decide_eq_true (by omega)
            have hpp2 : (portsC N v l (j : Int) : Int) < (portsC N v l (b : Int) : Int) := by omega
            have ebx1_0 : ∀ p, (ext wr p).cell? ⟨w.heap.size, 0, none⟩ = some (.slice (some ⟨b1, o1, none⟩) N.ends.length c1) := ext_cell wr (a := ⟨w.heap.size, 0, none⟩) ((HF6.out.boxN bx1_3 (by omega))).lt ((HF6.out.boxN bx1_3 (by omega)).cell 0 (by simp))
            have ebx1_1 : ∀ p, (ext wr p).cell? ⟨w.heap.size, 1, none⟩ = some (.slice A1' N.ids.length c1') := ext_cell wr (a := ⟨w.heap.size, 1, none⟩) ((HF6.out.boxN bx1_3 (by omega))).lt ((HF6.out.boxN bx1_3 (by omega)).cell 1 (by simp))
            have ebx1_2 : ∀ p, (ext wr p).cell? ⟨w.heap.size, 2, none⟩ = some (.slice A1'' N.inputs.length c1'') := ext_cell wr (a := ⟨w.heap.size, 2, none⟩) ((HF6.out.boxN bx1_3 (by omega))).lt ((HF6.out.boxN bx1_3 (by omega)).cell 2 (by simp))
            refine wp_region_ext (by kernel_rfl) (by kernel_rfl) ?_
            repeat (go_big_quiet_step ((first | (go_at_call 102; exact ext_call (ruSame_any _ N lo1 hi1 _ l _ _ v _ _ (Net.below (Net.turned N_3.out HF6.out (by omega) (by omega)) (ext_below _ _) (by omega)) (Nat.le_trans (by omega) (ext_size _ _)) (IntS.below HO.out (ext_below _ _) (by omega)) (Nat.le_trans (by omega) (ext_size _ _)) HG.out hv hlen)))))
            refine wpQuiet_nil ?_
            rintro w1 ⟨p, rfl⟩
            clear ebx1_0 ebx1_1 ebx1_2
            obtain ⟨W7, HW7⟩ : ∃ W, Hid (W = ext wr p) := ⟨_, Lib.hid rfl⟩
            rw [← HW7.out]
            have hg7 : wr.grownBy W7 none := by rw [HW7.out]; exact grown_below (ext_below _ _)
            clear HW7
            have hs7 := hg7.size
            have HF7 := Lib.hid (HF6.out.still hg7); clear HF6
            have O7 := Lib.hid (IntS.still HO.out hg7 (by omega)); clear HO
            go_wp2_with fail
            go_roundw
            case rel => exact ⟨j + 1, j, by omega, by go_num, by go_num, by omega, Lib.hid (by rw [HST.out, if_pos hpp]), O7, by omega, HF7⟩
            case measure => simp [intOf]; omega
          have hpp' : decide ((portsC N v l (j : Int) : Int) < (portsC N v l (b : Int) : Int)) = false := decide_eq_false (by omega)
          have hpp2 : ¬ (portsC N v l (j : Int) : Int) < (portsC N v l (b : Int) : Int) := by omega
          have ebx1_0 : ∀ p, (ext wr p).cell? ⟨w.heap.size, 0, none⟩ = some (.slice (some ⟨b1, o1, none⟩) N.ends.length c1) := ext_cell wr (a := ⟨w.heap.size, 0, none⟩) ((HF6.out.boxN bx1_3 (by omega))).lt ((HF6.out.boxN bx1_3 (by omega)).cell 0 (by simp))
          have ebx1_1 : ∀ p, (ext wr p).cell? ⟨w.heap.size, 1, none⟩ = some (.slice A1' N.ids.length c1') := ext_cell wr (a := ⟨w.heap.size, 1, none⟩) ((HF6.out.boxN bx1_3 (by omega))).lt ((HF6.out.boxN bx1_3 (by omega)).cell 1 (by simp))
          have ebx1_2 : ∀ p, (ext wr p).cell? ⟨w.heap.size, 2, none⟩ = some (.slice A1'' N.inputs.length c1'') := ext_cell wr (a := ⟨w.heap.size, 2, none⟩) ((HF6.out.boxN bx1_3 (by omega))).lt ((HF6.out.boxN bx1_3 (by omega)).cell 2 (by simp))
          refine wp_region_ext (by kernel_rfl) (by kernel_rfl) ?_
          repeat (go_big_quiet_step ((first | (go_at_call 102; exact ext_call (ruSame_any _ N lo1 hi1 _ l _ _ v _ _ (Net.below (Net.turned N_3.out HF6.out (by omega) (by omega)) (ext_below _ _) (by omega)) (Nat.le_trans (by omega) (ext_size _ _)) (IntS.below HO.out (ext_below _ _) (by omega)) (Nat.le_trans (by omega) (ext_size _ _)) HG.out hv hlen)))))
          refine wpQuiet_nil ?_
          rintro w1 ⟨p, rfl⟩
          clear ebx1_0 ebx1_1 ebx1_2
          obtain ⟨W8, HW8⟩ : ∃ W, Hid (W = ext wr p) := ⟨_, Lib.hid rfl⟩
          rw [← HW8.out]
          have hg8 : wr.grownBy W8 none := by rw [HW8.out]; exact grown_below (ext_below _ _)
          clear HW8
          have hs8 := hg8.size
          have HF8 := Lib.hid (HF6.out.still hg8); clear HF6
          have O8 := Lib.hid (IntS.still HO.out hg8 (by omega)); clear HO
          go_wp2_with fail
          go_roundw
          case rel => exact ⟨j + 1, b, by omega, by go_num, by go_num, by omega, Lib.hid (by rw [HST.out, if_neg hpp]), O8, by omega, HF8⟩
          case measure => simp [intOf]; omega
        have ejk : j = k := by omega
        have HBK := Lib.hid (show bestC N v l k = b by rw [← ejk]; exact HB.out.symm)
        clear ejk
        rw [HBK.out] at HT2
        obtain ⟨y1, y2⟩ := HO.out.at0 (j := v) (by rw [hlen]; exact hv)
        obtain ⟨yv, HYV⟩ : ∃ x, Hid (nth l v = x) := ⟨_, Lib.hid rfl⟩
        rw [HYV.out] at y1
        have HS := Lib.hid (HO.out.set0 (j := v) (by rw [hlen]; exact hv) (b : Int))
        go_upto_region 14 with fail
        clear y1 y2
        refine nameC ?_
        intro W9 HW9
        have hg9 : wr.grownBy W9 (some W2.heap.size) := by rw [HW9.out]; exact grown_set _ _ _
        have hs9 := hg9.size
        have HF9 := Lib.hid (HF6.out.grown hg9 (fun g hg => .inl (by cases hg; omega))); clear HF6
        have HO2 : Hid (IntS W9 W2.heap.size (W2.heap.size + 1) (.slice (some ⟨W2.heap.size, 0, none⟩) N.ends.length N.ends.length) (l.set v (b : Int))) := by rw [HW9.out]; exact HS
        clear HW9 HS HO
        have kbx1_0 : W9.cell? ⟨w.heap.size, 0, none⟩ = some (.slice (some ⟨b1, o1, none⟩) N.ends.length c1) := (HF9.out.boxN bx1_3 (by omega)).cell 0 (by simp)
        have kbx1_1 : W9.cell? ⟨w.heap.size, 1, none⟩ = some (.slice A1' N.ids.length c1') := (HF9.out.boxN bx1_3 (by omega)).cell 1 (by simp)
        have kbx1_2 : W9.cell? ⟨w.heap.size, 2, none⟩ = some (.slice A1'' N.inputs.length c1'') := (HF9.out.boxN bx1_3 (by omega)).cell 2 (by simp)
        go_wp2_with fail
        clear kbx1_0 kbx1_1 kbx1_2
        refine (ruCrowded_any _ N lo1 hi1 _ (l.set v (b : Int)) _ _ k _ (Net.turned N_3.out HF9.out (by omega) (by omega)) (by omega) HO2.out (by omega) HG.out HT2.out.len hk1 hk2).mono ?_
        rintro e W10 ⟨rfl, hb10⟩
        have hg10 := grown_below hb10; clear hb10
        have hs10 := hg10.size
        have HF10 := Lib.hid (HF9.out.still hg10); clear HF9
        have O10 := Lib.hid (IntS.still HO2.out hg10 (by omega)); clear HO2
        go_wp2_with fail
        go_roundw
        case rel => exact ⟨s + 1, _, by go_num, rfl, O10, HT2, by omega, HF10⟩
        case measure => simp [intOf]; omega

set_option maxHeartbeats 1000000 in
set_option maxRecDepth 100000 in
theorem Def_impl_no (v1 : Value) (N : NetD) (lo1 hi1 : Nat) (k : Int) (w : World) (h1 : Net w lo1 hi1 v1 N) (hh1 : hi1 ≤ w.heap.size) (hz1 : N.sz ≤ 1048576) (hin : inB k 1 10 = false) :
    Calls Try.prog 46 #[v1, .int .i64 k] w fun e w' => ∃ r, e = .returned (.tuple #[r, .int .i64 (defSt N k : Nat), .bool (defOk N k)]) ∧ IntS w' w.heap.size w'.heap.size r (defOut N k) ∧ Below w.heap.size w w' := by
  have HNO := Lib.hid (show defOk N k = false by unfold defOk; rw [hin]; simp)
  have F1 := Lib.hid h1
  obtain ⟨A1, c1, A1', c1', A1'', c1'', rfl, hc1, hd1, _⟩ := h1.parts
  clear h1
  obtain ⟨WA, HWA⟩ : ∃ W, Hid (W = ((w.alloc (.cells #[.slice A1 N.ends.length c1, .slice A1' N.ids.length c1', .slice A1'' N.inputs.length c1''] 33)).alloc (.cells #[.int .i64 k] 3))) := ⟨_, Lib.hid rfl⟩
  have hbA : Below w.heap.size w WA := by rw [HWA.out]; exact (((Below.refl _ _).alloc (Nat.le_refl _) _).alloc (by simp; try omega) _)
  have hsA : w.heap.size + 2 ≤ WA.heap.size := by rw [HWA.out]; simp; try omega
  have bx1 : BoxN WA (w.heap.size) #[.slice A1 N.ends.length c1, .slice A1' N.ids.length c1', .slice A1'' N.inputs.length c1''] 33 := by rw [HWA.out]; exact (BoxN.new' _ _ _ (by simp)).still (grown_alloc _ _)
  have bx2 : BoxN WA (w.heap.size + 1) #[.int .i64 k] 3 := by rw [HWA.out]; exact (BoxN.new' _ _ _ (by simp))
  have G1 := Lib.hid (Net.below F1.out hbA hh1); clear F1
  go_enter Try.func46, Try.ntmps46
  go_upto_region 1 with (fail)
  rw [← HWA.out]; clear HWA
  have kbx1_0 : WA.cell? ⟨w.heap.size, 0, none⟩ = some (.slice A1 N.ends.length c1) := bx1.cell 0 (by simp)
  have kbx1_1 : WA.cell? ⟨w.heap.size, 1, none⟩ = some (.slice A1' N.ids.length c1') := bx1.cell 1 (by simp)
  have kbx1_2 : WA.cell? ⟨w.heap.size, 2, none⟩ = some (.slice A1'' N.inputs.length c1'') := bx1.cell 2 (by simp)
  go_wp2_with fail
  clear kbx1_0 kbx1_1 kbx1_2
  refine (IsNetwork_any _ N lo1 hi1 _ G1.out (by omega) hz1).mono ?_
  rintro e W1 ⟨rfl, hb1⟩
  have hg1 := grown_below hb1; clear hb1
  have hs1 := hg1.size
  have HF1 := Lib.hid ((Turned.refl WA.heap.size WA.heap.size WA).still hg1)
  by_cases hg : N.good = true
  case neg =>
    have hg' : N.good = false := by simpa using hg
    rw [hg']
    have HG := Lib.hid hg'; clear hg hg'
    go_wp2_with fail
    go_ret3
    exact ⟨_, ret_rib (by rw [(defNo (HNO.out)).2]; rfl) (HNO.out).symm, by rw [(defNo (HNO.out)).1]; exact IntS.nil _ _ _, (HF1.out.below_of hbA (by omega) (by omega))⟩
  rw [hg]
  have HG := Lib.hid hg; clear hg
  obtain ⟨n1, n40⟩ := good_n HG.out
  have kbx1_0 : W1.cell? ⟨w.heap.size, 0, none⟩ = some (.slice A1 N.ends.length c1) := (HF1.out.boxN bx1 (by omega)).cell 0 (by simp)
  have kbx1_1 : W1.cell? ⟨w.heap.size, 1, none⟩ = some (.slice A1' N.ids.length c1') := (HF1.out.boxN bx1 (by omega)).cell 1 (by simp)
  have kbx1_2 : W1.cell? ⟨w.heap.size, 2, none⟩ = some (.slice A1'' N.inputs.length c1'') := (HF1.out.boxN bx1 (by omega)).cell 2 (by simp)
  have kbx2_0 : W1.cell? ⟨w.heap.size + 1, 0, none⟩ = some (.int .i64 k) := (HF1.out.boxN bx2 (by omega)).cell 0 (by simp)
  go_wp2_with (go_at_call 103; refine (within_any _ _ _ _).mono ?_; rintro e w' ⟨rfl, rfl⟩; rw [hin])
  clear kbx1_0 kbx1_1 kbx1_2 kbx2_0
  go_ret3
  exact ⟨_, ret_rib (by rw [(defNo (HNO.out)).2]; rfl) (HNO.out).symm, by rw [(defNo (HNO.out)).1]; exact IntS.nil _ _ _, (HF1.out.below_of hbA (by omega) (by omega))⟩

set_option maxHeartbeats 1000000 in
set_option maxRecDepth 100000 in
theorem Def_spec_no (v1 : Value) (N : NetD) (lo1 hi1 : Nat) (k : Int) (w : World) (h1 : Net w lo1 hi1 v1 N) (hh1 : hi1 ≤ w.heap.size) (hz1 : N.sz ≤ 1048576) (hin : inB k 1 10 = false) :
    Calls Try.prog 45 #[v1, .int .i64 k] w fun e w' => ∃ r, e = .returned (.tuple #[r, .int .i64 (defSt N k : Nat), .bool (defOk N k)]) ∧ IntS w' w.heap.size w'.heap.size r (defOut N k) ∧ Below w.heap.size w w' := by
  have HNO := Lib.hid (show defOk N k = false by unfold defOk; rw [hin]; simp)
  have F1 := Lib.hid h1
  obtain ⟨A1, c1, A1', c1', A1'', c1'', rfl, hc1, hd1, _⟩ := h1.parts
  clear h1
  obtain ⟨WA, HWA⟩ : ∃ W, Hid (W = (w.alloc (.cells #[.slice A1 N.ends.length c1, .slice A1' N.ids.length c1', .slice A1'' N.inputs.length c1''] 33))) := ⟨_, Lib.hid rfl⟩
  have hbA : Below w.heap.size w WA := by rw [HWA.out]; exact ((Below.refl _ _).alloc (Nat.le_refl _) _)
  have hsA : w.heap.size + 1 ≤ WA.heap.size := by rw [HWA.out]; simp; try omega
  have bx1 : BoxN WA (w.heap.size) #[.slice A1 N.ends.length c1, .slice A1' N.ids.length c1', .slice A1'' N.inputs.length c1''] 33 := by rw [HWA.out]; exact (BoxN.new' _ _ _ (by simp))
  have G1 := Lib.hid (Net.below F1.out hbA hh1); clear F1
  go_enter Try.func45, Try.ntmps45
  go_upto_region 1 with (fail)
  rw [← HWA.out]; clear HWA
  have kbx1_0 : WA.cell? ⟨w.heap.size, 0, none⟩ = some (.slice A1 N.ends.length c1) := bx1.cell 0 (by simp)
  have kbx1_1 : WA.cell? ⟨w.heap.size, 1, none⟩ = some (.slice A1' N.ids.length c1') := bx1.cell 1 (by simp)
  have kbx1_2 : WA.cell? ⟨w.heap.size, 2, none⟩ = some (.slice A1'' N.inputs.length c1'') := bx1.cell 2 (by simp)
  go_wp2_with fail
  clear kbx1_0 kbx1_1 kbx1_2
  refine (neGood_any _ N lo1 hi1 _ G1.out (by omega) hz1).mono ?_
  rintro e W1 ⟨rfl, hb1⟩
  have hg1 := grown_below hb1; clear hb1
  have hs1 := hg1.size
  have HF1 := Lib.hid ((Turned.refl WA.heap.size WA.heap.size WA).still hg1)
  by_cases hg : N.good = true
  case neg =>
    have hg' : N.good = false := by simpa using hg
    rw [hg']
    have HG := Lib.hid hg'; clear hg hg'
    go_wp2_with fail
    go_ret3
    exact ⟨_, ret_rib (by rw [(defNo (HNO.out)).2]; rfl) (HNO.out).symm, by rw [(defNo (HNO.out)).1]; exact IntS.nil _ _ _, (HF1.out.below_of hbA (by omega) (by omega))⟩
  rw [hg]
  have HG := Lib.hid hg; clear hg
  obtain ⟨n1, n40⟩ := good_n HG.out
  obtain ⟨b1, o1, _, _, rfl, _⟩ := Net.rowAt (Net.turned G1.out HF1.out (by omega) (by omega)) (u := 0) (by omega)
  have kbx1_0 : W1.cell? ⟨w.heap.size, 0, none⟩ = some (.slice (some ⟨b1, o1, none⟩) N.ends.length c1) := (HF1.out.boxN bx1 (by omega)).cell 0 (by simp)
  have kbx1_1 : W1.cell? ⟨w.heap.size, 1, none⟩ = some (.slice A1' N.ids.length c1') := (HF1.out.boxN bx1 (by omega)).cell 1 (by simp)
  have kbx1_2 : W1.cell? ⟨w.heap.size, 2, none⟩ = some (.slice A1'' N.inputs.length c1'') := (HF1.out.boxN bx1 (by omega)).cell 2 (by simp)
  go_wp2_with fail
  clear kbx1_0 kbx1_1 kbx1_2
  refine (ruPlain_any _ N lo1 hi1 _ (Net.turned G1.out HF1.out (by omega) (by omega)) (by omega) HG.out).mono ?_
  rintro e W2 ⟨rfl, hb2⟩
  have hg2 := grown_below hb2; clear hb2
  have hs2 := hg2.size
  have HF2 := Lib.hid (HF1.out.still hg2); clear HF1
  cases hn : noLoop N with
  | false =>
    clear hn
    go_wp2_with fail
    go_ret3
    exact ⟨_, ret_rib (by rw [(defNo (HNO.out)).2]; rfl) (HNO.out).symm, by rw [(defNo (HNO.out)).1]; exact IntS.nil _ _ _, (HF2.out.below_of hbA (by omega) (by omega))⟩
  | true =>
    clear hn
    go_wp2_with (go_at_call 100; refine (l1In_any _ _ _ _).mono ?_; rintro e w' ⟨rfl, rfl⟩; rw [hin])
    go_ret3
    exact ⟨_, ret_rib (by rw [(defNo (HNO.out)).2]; rfl) (HNO.out).symm, by rw [(defNo (HNO.out)).1]; exact IntS.nil _ _ _, (HF2.out.below_of hbA (by omega) (by omega))⟩

theorem DefectiveColouring_impl (v1 : Value) (N : NetD) (lo1 hi1 : Nat) (k : Int) (w : World) (h1 : Net w lo1 hi1 v1 N) (hh1 : hi1 ≤ w.heap.size) (hz1 : N.sz ≤ 1048576) (ok1 : N.Ok) (ok2 : I64 k) :
    Calls Try.prog 46 #[v1, .int .i64 k] w fun e w' => ∃ r, e = .returned (.tuple #[r, .int .i64 (defSt N k : Nat), .bool (defOk N k)]) ∧ IntS w' w.heap.size w'.heap.size r (defOut N k) ∧ Below w.heap.size w w' := by
  cases hin : inB k 1 10 with
  | false => exact Def_impl_no v1 N lo1 hi1 k w h1 hh1 hz1 hin
  | true =>
    have := inB_le hin
    obtain ⟨m, rfl⟩ : ∃ m : Nat, k = m := ⟨k.toNat, by omega⟩
    exact Def_impl_yes v1 N lo1 hi1 m w h1 hh1 hz1 (by omega) (by omega)

theorem DefectiveColouring_spec (v1 : Value) (N : NetD) (lo1 hi1 : Nat) (k : Int) (w : World) (h1 : Net w lo1 hi1 v1 N) (hh1 : hi1 ≤ w.heap.size) (hz1 : N.sz ≤ 1048576) (ok1 : N.Ok) (ok2 : I64 k) :
    Calls Try.prog 45 #[v1, .int .i64 k] w fun e w' => ∃ r, e = .returned (.tuple #[r, .int .i64 (defSt N k : Nat), .bool (defOk N k)]) ∧ IntS w' w.heap.size w'.heap.size r (defOut N k) ∧ Below w.heap.size w w' := by
  cases hin : inB k 1 10 with
  | false => exact Def_spec_no v1 N lo1 hi1 k w h1 hh1 hz1 hin
  | true =>
    have := inB_le hin
    obtain ⟨m, rfl⟩ : ∃ m : Nat, k = m := ⟨k.toNat, by omega⟩
    exact Def_spec_yes v1 N lo1 hi1 m w h1 hh1 hz1 (by omega) (by omega)

theorem ends_le_sz' (N : NetD) : N.ends.length ≤ N.sz := by unfold NetD.sz szSS; omega
theorem defOut_len (N : NetD) (k : Int) : (defOut N k).length ≤ N.ends.length := by
  unfold defOut
  by_cases h : defOk N k = true
  · rw [if_pos h]
    unfold defOk at h
    rw [Bool.and_eq_true, Bool.and_eq_true] at h
    obtain ⟨hg, hk, hn⟩ := h
    have hk' := inB_le hk
    obtain ⟨m, rfl⟩ : ∃ m : Nat, k = m := ⟨k.toNat, by omega⟩
    rw [Int.toNat_natCast]
    have key : ∀ f s l, f = 241 - s → DTop N m s l → (defColours N m).length = N.ends.length := by
      intro f
      induction f with
      | zero => intro s l hf h; have := h.pot; omega
      | succ f ih =>
        intro s l hf h
        rcases fidxN_cases (crowdAt N m l) N.ends.length with ⟨e, _⟩ | ⟨v, hv, e, hp, _⟩
        · rw [(h.stop e).1]; exact h.len
        · exact ih (s + 1) _ (by omega) (h.step hg hn (by omega) hv e hp)
    rw [key _ 0 _ rfl (DTop.zero hg (by omega))]
    exact Nat.le_refl _
  · rw [if_neg h]; exact Nat.zero_le _

end Go.Proofs.Ytoebgfmnjjiddaa
