/-
  Contracts of OrderOfOrientation (program and reference).
-/
import Derived.Test.YtjapdfdjgjajkaaOrd2
import Derived.Deep.RegionHeld3
namespace Go.Proofs.Ytjapdfdjgjajkaa
open Go.ChangeShapes Go.WideShapes Go.ChangeAt Go.RowKit
set_option linter.unusedVariables false

theorem orAsked_false (v1 : Value) (N : NetD) (lo1 hi1 : Nat) (v2 : Value) (o : List (List Int)) (lo2 hi2 : Nat) (w : World) (h1 : Net w lo1 hi1 v1 N) (hh1 : hi1 ≤ w.heap.size) (h2 : IntSS w lo2 hi2 v2 o) (hh2 : hi2 ≤ w.heap.size) (hsz : N.sz ≤ 1048576) (h : oriOk N o = false) :
    Calls Try.prog 57 #[v1, v2] w fun e w' => e = .returned (.bool false) ∧ Below w.heap.size w w' :=
  (orAsked_any v1 N lo1 hi1 v2 o lo2 hi2 w h1 hh1 h2 hh2 hsz).mono fun e w' ⟨he, hb⟩ => ⟨by rw [he, h], hb⟩
theorem ordOk_eq {N : NetD} {o : List (List Int)} (h : oriOk N o = true) : ordOk N o = ordFull N o := by unfold ordOk ordFull; rw [h]; rfl
theorem ordOut_eq {N : NetD} {o : List (List Int)} (h : oriOk N o = true) : ordOut N o = ordLst N o := by unfold ordOut ordLst; rw [ordOk_eq h]
theorem ordOk_no {N : NetD} {o : List (List Int)} (h : oriOk N o = false) : ordOk N o = false := by unfold ordOk; rw [h]; rfl
theorem ordOut_no {N : NetD} {o : List (List Int)} (h : oriOk N o = false) : ordOut N o = [] := by unfold ordOut; rw [ordOk_no h]; rfl

set_option maxHeartbeats 4000000 in
set_option maxRecDepth 100000 in
theorem OrderOfOrientation_impl (v1 : Value) (N : NetD) (lo1 hi1 : Nat) (v2 : Value) (o : List (List Int)) (lo2 hi2 : Nat) (w : World) (h1 : Net w lo1 hi1 v1 N) (hh1 : hi1 ≤ w.heap.size) (h2 : IntSS w lo2 hi2 v2 o) (hh2 : hi2 ≤ w.heap.size) (hz1 : N.sz ≤ 1048576) (hz2 : szSS o ≤ 1048576) (ok1 : N.Ok) (ok2 : ∀ l ∈ o, ∀ z ∈ l, I64 z) :
    Calls Try.prog 40 #[v1, v2] w fun e w' => ∃ r, e = .returned (.tuple #[r, .bool (ordOk N o)]) ∧ IntS w' w.heap.size w'.heap.size r (ordOut N o) ∧ Below w.heap.size w w' := by
  clear ok1 ok2
  have F1 := Lib.hid h1
  obtain ⟨A1, c1, A1', c1', A1'', c1'', rfl, hc1, hd1, _⟩ := h1.parts
  clear h1
  have F2 := Lib.hid h2
  obtain ⟨A2, c2, rfl, hc2, hd2⟩ := h2.dims
  clear h2
  obtain ⟨WA, HWA⟩ : ∃ W, Hid (W = (w.alloc (.cells #[.slice A1 N.ends.length c1, .slice A1' N.ids.length c1', .slice A1'' N.inputs.length c1''] 32))) := ⟨_, Lib.hid rfl⟩
  have hbA : Below w.heap.size w WA := by rw [HWA.out]; exact ((Below.refl _ _).alloc (Nat.le_refl _) _)
  have hsA : w.heap.size + 1 ≤ WA.heap.size := by rw [HWA.out]; simp; try omega
  have bx1 : BoxN WA (w.heap.size) #[.slice A1 N.ends.length c1, .slice A1' N.ids.length c1', .slice A1'' N.inputs.length c1''] 32 := by rw [HWA.out]; exact (BoxN.new' _ _ _ (by simp))
  have G1 := Lib.hid (Net.below F1.out hbA hh1); clear F1
  have G2 := Lib.hid (ISS.below F2.out hbA hh2); clear F2
  go_enter Try.func40, Try.ntmps40
  go_upto_region 1 with (fail)
  rw [← HWA.out]; clear HWA
  have kbx1_0 : WA.cell? ⟨w.heap.size, 0, none⟩ = some (.slice A1 N.ends.length c1) := bx1.cell 0 (by simp)
  have kbx1_1 : WA.cell? ⟨w.heap.size, 1, none⟩ = some (.slice A1' N.ids.length c1') := bx1.cell 1 (by simp)
  have kbx1_2 : WA.cell? ⟨w.heap.size, 2, none⟩ = some (.slice A1'' N.inputs.length c1'') := bx1.cell 2 (by simp)
  go_wp2_with fail
  clear kbx1_0 kbx1_1 kbx1_2
  refine (isOrientation_any _ N lo1 hi1 _ o lo2 hi2 _ G1.out (by omega) G2.out (by omega) hz1).mono ?_
  rintro e W1 ⟨rfl, hb1⟩
  have hg1 := grown_below hb1; clear hb1
  have hs1 := hg1.size
  have HF1 := Lib.hid ((Turned.refl WA.heap.size WA.heap.size WA).still hg1)
  by_cases hor : oriOk N o = true
  case neg =>
    have hor' : oriOk N o = false := by simpa using hor
    rw [hor']
    have HOR := Lib.hid hor'; clear hor hor'
    go_wp2_with fail
    go_ret2
    exact ⟨_, ret_vb (ordOk_no HOR.out).symm, by rw [ordOut_no HOR.out]; exact IntS.nil _ _ _, (HF1.out.below_of hbA (by omega) (by omega))⟩
  rw [hor]
  have HOR := Lib.hid hor; clear hor
  have kbx1_0 : W1.cell? ⟨w.heap.size, 0, none⟩ = some (.slice A1 N.ends.length c1) := (HF1.out.boxN bx1 (by omega)).cell 0 (by simp)
  have kbx1_1 : W1.cell? ⟨w.heap.size, 1, none⟩ = some (.slice A1' N.ids.length c1') := (HF1.out.boxN bx1 (by omega)).cell 1 (by simp)
  have kbx1_2 : W1.cell? ⟨w.heap.size, 2, none⟩ = some (.slice A1'' N.inputs.length c1'') := (HF1.out.boxN bx1 (by omega)).cell 2 (by simp)
  go_wp2_with fail
  clear kbx1_0 kbx1_1 kbx1_2
  refine (orderOf_any _ N lo1 hi1 _ o lo2 hi2 _ (Net.turned G1.out HF1.out (by omega) (by omega)) (by omega) (ISS.turned G2.out HF1.out (by omega) (by omega)) (by omega) HOR.out).mono ?_
  rintro e W2 ⟨r, rfl, hr, hb2⟩
  have hg2 := grown_below hb2; clear hb2
  have hs2 := hg2.size
  have HF2 := Lib.hid (HF1.out.still hg2); clear HF1
  have R2 := Lib.hid hr; clear hr
  obtain ⟨Ar, cr, rfl, hcr, hdr⟩ := R2.out.dims
  go_wp2_with fail
  go_ret2
  refine ⟨_, ret_vb (ordOk_eq HOR.out).symm, ?_, (HF2.out.below_of hbA (by omega) (by omega))⟩
  rw [ordOut_eq HOR.out]
  exact R2.out.mono (by omega) (by omega)

set_option maxHeartbeats 4000000 in
set_option maxRecDepth 100000 in
theorem OrderOfOrientation_spec (v1 : Value) (N : NetD) (lo1 hi1 : Nat) (v2 : Value) (o : List (List Int)) (lo2 hi2 : Nat) (w : World) (h1 : Net w lo1 hi1 v1 N) (hh1 : hi1 ≤ w.heap.size) (h2 : IntSS w lo2 hi2 v2 o) (hh2 : hi2 ≤ w.heap.size) (hz1 : N.sz ≤ 1048576) (hz2 : szSS o ≤ 1048576) (ok1 : N.Ok) (ok2 : ∀ l ∈ o, ∀ z ∈ l, I64 z) :
    Calls Try.prog 38 #[v1, v2] w fun e w' => ∃ r, e = .returned (.tuple #[r, .bool (ordOk N o)]) ∧ IntS w' w.heap.size w'.heap.size r (ordOut N o) ∧ Below w.heap.size w w' := by
  clear ok1 ok2
  have F1 := Lib.hid h1
  obtain ⟨A1, c1, A1', c1', A1'', c1'', rfl, hc1, hd1, _⟩ := h1.parts
  clear h1
  have F2 := Lib.hid h2
  obtain ⟨A2, c2, rfl, hc2, hd2⟩ := h2.dims
  clear h2
  obtain ⟨WA, HWA⟩ : ∃ W, Hid (W = (w.alloc (.cells #[.slice A1 N.ends.length c1, .slice A1' N.ids.length c1', .slice A1'' N.inputs.length c1''] 32))) := ⟨_, Lib.hid rfl⟩
  have hbA : Below w.heap.size w WA := by rw [HWA.out]; exact ((Below.refl _ _).alloc (Nat.le_refl _) _)
  have hsA : w.heap.size + 1 ≤ WA.heap.size := by rw [HWA.out]; simp; try omega
  have bx1 : BoxN WA (w.heap.size) #[.slice A1 N.ends.length c1, .slice A1' N.ids.length c1', .slice A1'' N.inputs.length c1''] 32 := by rw [HWA.out]; exact (BoxN.new' _ _ _ (by simp))
  have G1 := Lib.hid (Net.below F1.out hbA hh1); clear F1
  have G2 := Lib.hid (ISS.below F2.out hbA hh2); clear F2
  go_enter Try.func38, Try.ntmps38
  go_upto_region 1 with (fail)
  rw [← HWA.out]; clear HWA
  have kbx1_0 : WA.cell? ⟨w.heap.size, 0, none⟩ = some (.slice A1 N.ends.length c1) := bx1.cell 0 (by simp)
  have kbx1_1 : WA.cell? ⟨w.heap.size, 1, none⟩ = some (.slice A1' N.ids.length c1') := bx1.cell 1 (by simp)
  have kbx1_2 : WA.cell? ⟨w.heap.size, 2, none⟩ = some (.slice A1'' N.inputs.length c1'') := bx1.cell 2 (by simp)
  cases hor : oriOk N o with
  | false =>
    have HOR := Lib.hid hor; clear hor
    have e0 := ext_cell WA (a := ⟨w.heap.size, 0, none⟩) (by show w.heap.size < _; omega) kbx1_0
    have e1 := ext_cell WA (a := ⟨w.heap.size, 1, none⟩) (by show w.heap.size < _; omega) kbx1_1
    have e2 := ext_cell WA (a := ⟨w.heap.size, 2, none⟩) (by show w.heap.size < _; omega) kbx1_2
    refine wp_region_ext (by kernel_rfl) (by kernel_rfl) ?_
    repeat (go_big_quiet_step ((go_at_call 57; exact ext_call (orAsked_false _ N lo1 hi1 _ o lo2 hi2 _ (G1.out.below (ext_below _ _) (by omega)) (Nat.le_trans (by omega) (ext_size _ _)) (ISS.below G2.out (ext_below _ _) (by omega)) (Nat.le_trans (by omega) (ext_size _ _)) hz1 HOR.out))))
    refine wpQuiet_nil ?_
    rintro w1 ⟨p, rfl⟩
    clear e0 e1 e2 kbx1_0 kbx1_1 kbx1_2
    have hbe := ext_below WA p
    go_wp2_with fail
    go_ret2
    exact ⟨_, ret_vb (ordOk_no HOR.out).symm, by rw [ordOut_no HOR.out]; exact IntS.nil _ _ _, hbA.trans (hbe.mono (by omega))⟩
  | true =>
    have HOR := Lib.hid hor; clear hor
    obtain ⟨n1, n40⟩ := good_n (oriOk_parts HOR.out).2.1
    have hol := (ordAll_top N o).1.inv.len
    by_cases hfl : (ordAll N o).length < N.ends.length
    case pos =>
      have HFL := Lib.hid (show ordFull N o = false by unfold ordFull; rw [decide_eq_false (by omega)])
      go_region_held3 (fun w' => w'.cell? ⟨w.heap.size, 0, none⟩ = some (.slice A1 N.ends.length c1) ∧ w'.cell? ⟨w.heap.size, 1, none⟩ = some (.slice A1' N.ids.length c1') ∧ w'.cell? ⟨w.heap.size, 2, none⟩ = some (.slice A1'' N.inputs.length c1''))
        (first | exact ⟨kbx1_0, kbx1_1, kbx1_2⟩ | exact ⟨l0, l1, l2⟩ | exact ⟨m0, m1, m2⟩)
        (first | (go_at_call 57; refine (orAsked_any _ N lo1 hi1 _ o lo2 hi2 _ (Net.below G1.out (Below.refl _ _).drew (by omega)) (by show _ ≤ WA.heap.size; omega) (ISS.below G2.out (Below.refl _ _).drew (by omega)) (by show _ ≤ WA.heap.size; omega) hz1).mono ?_; rintro e W1 ⟨rfl, hb1⟩; rw [HOR.out]; have hb1' : Below WA.heap.size WA W1 := (Below.refl _ _).drew.trans hb1; have bx1' := bx1.below hb1' bx1.lt; have l0 : W1.cell? ⟨w.heap.size, 0, none⟩ = some (.slice A1 N.ends.length c1) := bx1'.cell 0 (by simp); have l1 : W1.cell? ⟨w.heap.size, 1, none⟩ = some (.slice A1' N.ids.length c1') := bx1'.cell 1 (by simp); have l2 : W1.cell? ⟨w.heap.size, 2, none⟩ = some (.slice A1'' N.inputs.length c1'') := bx1'.cell 2 (by simp); clear hb1) | (go_at_call 58; refine (orOrder_any _ N lo1 hi1 _ o lo2 hi2 _ (Net.below G1.out hb1' (by omega)) (by have := hb1'.size; omega) (ISS.below G2.out hb1' (by omega)) (by have := hb1'.size; omega) HOR.out).mono ?_; rintro e W2 ⟨r, rfl, hr, hb2⟩; have bx2' := bx1'.below hb2 bx1'.lt; have m0 : W2.cell? ⟨w.heap.size, 0, none⟩ = some (.slice A1 N.ends.length c1) := bx2'.cell 0 (by simp); have m1 : W2.cell? ⟨w.heap.size, 1, none⟩ = some (.slice A1' N.ids.length c1') := bx2'.cell 1 (by simp); have m2 : W2.cell? ⟨w.heap.size, 2, none⟩ = some (.slice A1'' N.inputs.length c1'') := bx2'.cell 2 (by simp); have HR := Lib.hid hr; obtain ⟨R, rc, rfl, hrc1, hrc2⟩ := hr.dims; clear hr))
      rename_i hheld
      clear hheld l0 l1 l2 m0 m1 m2 kbx1_0 kbx1_1 kbx1_2
      have hbw := hbA.trans ((hb1'.trans (hb2.mono hb1'.size)).mono (by omega))
      go_wp2_with fail
      go_ret2
      exact ⟨_, ret_vb (by rw [ordOk_eq HOR.out, HFL.out]), by rw [ordOut_eq HOR.out]; unfold ordLst; rw [HFL.out]; exact IntS.nil _ _ _, hbw⟩
    have HFL := Lib.hid (show ordFull N o = true by unfold ordFull; rw [decide_eq_true (by omega)])
    go_region_held3 (fun w' => w'.cell? ⟨w.heap.size, 0, none⟩ = some (.slice A1 N.ends.length c1) ∧ w'.cell? ⟨w.heap.size, 1, none⟩ = some (.slice A1' N.ids.length c1') ∧ w'.cell? ⟨w.heap.size, 2, none⟩ = some (.slice A1'' N.inputs.length c1''))
      (first | exact ⟨kbx1_0, kbx1_1, kbx1_2⟩ | exact ⟨l0, l1, l2⟩ | exact ⟨m0, m1, m2⟩)
      (first | (go_at_call 57; refine (orAsked_any _ N lo1 hi1 _ o lo2 hi2 _ (Net.below G1.out (Below.refl _ _).drew (by omega)) (by show _ ≤ WA.heap.size; omega) (ISS.below G2.out (Below.refl _ _).drew (by omega)) (by show _ ≤ WA.heap.size; omega) hz1).mono ?_; rintro e W1 ⟨rfl, hb1⟩; rw [HOR.out]; have hb1' : Below WA.heap.size WA W1 := (Below.refl _ _).drew.trans hb1; have bx1' := bx1.below hb1' bx1.lt; have l0 : W1.cell? ⟨w.heap.size, 0, none⟩ = some (.slice A1 N.ends.length c1) := bx1'.cell 0 (by simp); have l1 : W1.cell? ⟨w.heap.size, 1, none⟩ = some (.slice A1' N.ids.length c1') := bx1'.cell 1 (by simp); have l2 : W1.cell? ⟨w.heap.size, 2, none⟩ = some (.slice A1'' N.inputs.length c1'') := bx1'.cell 2 (by simp); clear hb1) | (go_at_call 58; refine (orOrder_any _ N lo1 hi1 _ o lo2 hi2 _ (Net.below G1.out hb1' (by omega)) (by have := hb1'.size; omega) (ISS.below G2.out hb1' (by omega)) (by have := hb1'.size; omega) HOR.out).mono ?_; rintro e W2 ⟨r, rfl, hr, hb2⟩; have bx2' := bx1'.below hb2 bx1'.lt; have m0 : W2.cell? ⟨w.heap.size, 0, none⟩ = some (.slice A1 N.ends.length c1) := bx2'.cell 0 (by simp); have m1 : W2.cell? ⟨w.heap.size, 1, none⟩ = some (.slice A1' N.ids.length c1') := bx2'.cell 1 (by simp); have m2 : W2.cell? ⟨w.heap.size, 2, none⟩ = some (.slice A1'' N.inputs.length c1'') := bx2'.cell 2 (by simp); have HR := Lib.hid hr; obtain ⟨R, rc, rfl, hrc1, hrc2⟩ := hr.dims; clear hr))
    rename_i hheld
    clear hheld l0 l1 l2 kbx1_0 kbx1_1 kbx1_2 HR
    have hb02 : Below WA.heap.size WA W2 := hb1'.trans (hb2.mono hb1'.size)
    have hs2 := hb02.size
    have N2 := Lib.hid (Net.below G1.out hb02 (by omega))
    have O2 := Lib.hid (ISS.below G2.out hb02 (by omega))
    go_wp2_with fail
    clear m0 m1 m2
    refine (orOrder_any _ N lo1 hi1 _ o lo2 hi2 _ N2.out (by omega) O2.out (by omega) HOR.out).mono ?_
    rintro e W3 ⟨r, rfl, hr, hb3⟩
    have hb03 := hbA.trans ((hb02.trans (hb3.mono (by omega))).mono (by omega))
    have HR := Lib.hid hr
    obtain ⟨Aq, cq, rfl, hcq, hdq⟩ := hr.dims
    clear hr
    go_wp2_with fail
    go_ret2
    refine ⟨_, ret_vb (by rw [ordOk_eq HOR.out, HFL.out]), ?_, hb03⟩
    rw [ordOut_eq HOR.out]; unfold ordLst; rw [HFL.out, if_pos rfl]
    exact HR.out.mono (by omega) (Nat.le_refl _)

end Go.Proofs.Ytjapdfdjgjajkaa
