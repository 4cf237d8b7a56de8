/-
  Contracts of OutDegreesOf (program and reference).
-/
import Derived.Test.YtapfighdnfmdcaaOri3
namespace Go.Proofs.Ytapfighdnfmdcaa
open Go.ChangeShapes Go.WideShapes Go.ChangeAt Go.RowKit
set_option linter.unusedVariables false

def outRes (N : NetD) (o : List (List Int)) : List Int := if oriOk N o = true then outDeg o else []
theorem outRes_len (N : NetD) (o : List (List Int)) : (outRes N o).length ≤ szSS o := by
  unfold outRes; split
  · rw [outDeg_length]; unfold szSS; omega
  · exact Nat.zero_le _

set_option maxHeartbeats 4000000 in
set_option maxRecDepth 100000 in
theorem OutDegreesOf_spec (v1 : Value) (N : NetD) (lo1 hi1 : Nat) (v2 : Value) (o : List (List Int)) (lo2 hi2 : Nat) (w : World) (h1 : Net w lo1 hi1 v1 N) (hh1 : hi1 ≤ w.heap.size) (h2 : IntSS w lo2 hi2 v2 o) (hh2 : hi2 ≤ w.heap.size) (hz1 : N.sz ≤ 1048576) (hz2 : szSS o ≤ 1048576) (ok1 : N.Ok) (ok2 : ∀ l ∈ o, ∀ z ∈ l, I64 z) :
    Calls Try.prog 36 #[v1, v2] w fun e w' => ∃ r, e = .returned (.tuple #[r, .bool (oriOk N o)]) ∧ IntS w' w.heap.size w'.heap.size r (outRes N o) ∧ Below w.heap.size w w' := by
  clear ok1 ok2
  have F1 := Lib.hid h1
  obtain ⟨A1, c1, A1', c1', A1'', c1'', rfl, hc1, hd1, _⟩ := h1.parts
  clear h1
  have F2 := Lib.hid h2
  obtain ⟨A2, c2, rfl, hc2, hd2⟩ := h2.dims
  clear h2
  obtain ⟨WA, HWA⟩ : ∃ W, Hid (W = (w.alloc (.cells #[.slice A1 N.ends.length c1, .slice A1' N.ids.length c1', .slice A1'' N.inputs.length c1''] 31))) := ⟨_, Lib.hid rfl⟩
  have hbA : Below w.heap.size w WA := by rw [HWA.out]; exact ((Below.refl _ _).alloc (Nat.le_refl _) _)
  have hsA : w.heap.size + 1 ≤ WA.heap.size := by rw [HWA.out]; simp; try omega
  have bx1 : BoxN WA (w.heap.size) #[.slice A1 N.ends.length c1, .slice A1' N.ids.length c1', .slice A1'' N.inputs.length c1''] 31 := by rw [HWA.out]; exact (BoxN.new' _ _ _ (by simp))
  have G1 := Lib.hid (Net.below F1.out hbA hh1); clear F1
  have G2 := Lib.hid (ISS.below F2.out hbA hh2); clear F2
  go_enter Try.func36, Try.ntmps36
  go_upto_region 1 with (fail)
  rw [← HWA.out]; clear HWA
  have kbx1_0 : WA.cell? ⟨w.heap.size, 0, none⟩ = some (.slice A1 N.ends.length c1) := bx1.cell 0 (by simp)
  have kbx1_1 : WA.cell? ⟨w.heap.size, 1, none⟩ = some (.slice A1' N.ids.length c1') := bx1.cell 1 (by simp)
  have kbx1_2 : WA.cell? ⟨w.heap.size, 2, none⟩ = some (.slice A1'' N.inputs.length c1'') := bx1.cell 2 (by simp)
  go_wp2_with fail
  clear kbx1_0 kbx1_1 kbx1_2
  refine (orAsked_any _ N lo1 hi1 _ o lo2 hi2 _ G1.out (by omega) G2.out (by omega) hz1).mono ?_
  rintro e W1 ⟨rfl, hb1⟩
  have hg1 := grown_below hb1; clear hb1
  have hs1 := hg1.size
  have HF1 := Lib.hid ((Turned.refl WA.heap.size WA.heap.size WA).still hg1)
  by_cases hor : oriOk N o = true
  case neg =>
    have hor' : oriOk N o = false := by simpa using hor
    rw [hor']
    have HOR := Lib.hid hor'; clear hor hor'
    go_wp2_with fail
    go_ret2
    exact ⟨_, ret_vb HOR.out.symm, by unfold outRes; rw [HOR.out]; exact IntS.nil _ _ _, (HF1.out.below_of hbA (by omega) (by omega))⟩
  rw [hor]
  have HOR := Lib.hid hor; clear hor
  obtain ⟨_, hgd, hpb, hri, _⟩ := oriOk_parts HOR.out
  have HGD := Lib.hid hgd
  have HPB := Lib.hid hpb
  have HRI := Lib.hid hri
  clear hgd hpb hri
  obtain ⟨n1, n40⟩ := good_n HGD.out
  have hol : o.length ≤ N.ends.length := by have := ports_len HPB.out; omega
  have HRL := Lib.hid (fun v (hv : v < o.length) => show (nthL o v).length ≤ 1048576 by have := ports_row HPB.out (v := v) (by omega); have := good_deg HGD.out (v := v) (by omega); omega)
  go_wp2_with fail
  refine (orOut_any _ o lo2 hi2 _ (ISS.turned G2.out HF1.out (by omega) (by omega)) (by omega) HRI.out (by omega) HRL.out).mono ?_
  rintro e W2 ⟨r, rfl, hr, hb2⟩
  have hg2 := grown_below hb2; clear hb2
  have hs2 := hg2.size
  have HF2 := Lib.hid (HF1.out.still hg2); clear HF1
  have R2 := Lib.hid hr; clear hr
  obtain ⟨Ar, cr, rfl, hcr, hdr⟩ := R2.out.dims
  go_wp2_with fail
  go_ret2
  refine ⟨_, ret_vb HOR.out.symm, ?_, (HF2.out.below_of hbA (by omega) (by omega))⟩
  unfold outRes; rw [HOR.out, if_pos rfl]
  exact R2.out.mono (by omega) (by omega)

set_option maxHeartbeats 4000000 in
set_option maxRecDepth 100000 in
theorem OutDegreesOf_impl (v1 : Value) (N : NetD) (lo1 hi1 : Nat) (v2 : Value) (o : List (List Int)) (lo2 hi2 : Nat) (w : World) (h1 : Net w lo1 hi1 v1 N) (hh1 : hi1 ≤ w.heap.size) (h2 : IntSS w lo2 hi2 v2 o) (hh2 : hi2 ≤ w.heap.size) (hz1 : N.sz ≤ 1048576) (hz2 : szSS o ≤ 1048576) (ok1 : N.Ok) (ok2 : ∀ l ∈ o, ∀ z ∈ l, I64 z) :
    Calls Try.prog 38 #[v1, v2] w fun e w' => ∃ r, e = .returned (.tuple #[r, .bool (oriOk N o)]) ∧ IntS w' w.heap.size w'.heap.size r (outRes N o) ∧ Below w.heap.size w w' := by
  clear ok1 ok2
  have F1 := Lib.hid h1
  obtain ⟨A1, c1, A1', c1', A1'', c1'', rfl, hc1, hd1, _⟩ := h1.parts
  clear h1
  have F2 := Lib.hid h2
  obtain ⟨A2, c2, rfl, hc2, hd2⟩ := h2.dims
  clear h2
  obtain ⟨WA, HWA⟩ : ∃ W, Hid (W = (w.alloc (.cells #[.slice A1 N.ends.length c1, .slice A1' N.ids.length c1', .slice A1'' N.inputs.length c1''] 31))) := ⟨_, Lib.hid rfl⟩
  have hbA : Below w.heap.size w WA := by rw [HWA.out]; exact ((Below.refl _ _).alloc (Nat.le_refl _) _)
  have hsA : w.heap.size + 1 ≤ WA.heap.size := by rw [HWA.out]; simp; try omega
  have bx1 : BoxN WA (w.heap.size) #[.slice A1 N.ends.length c1, .slice A1' N.ids.length c1', .slice A1'' N.inputs.length c1''] 31 := by rw [HWA.out]; exact (BoxN.new' _ _ _ (by simp))
  have G1 := Lib.hid (Net.below F1.out hbA hh1); clear F1
  have G2 := Lib.hid (ISS.below F2.out hbA hh2); clear F2
  go_enter Try.func38, Try.ntmps38
  go_upto_region 1 with (fail)
  rw [← HWA.out]; clear HWA
  have kbx1_0 : WA.cell? ⟨w.heap.size, 0, none⟩ = some (.slice A1 N.ends.length c1) := bx1.cell 0 (by simp)
  have kbx1_1 : WA.cell? ⟨w.heap.size, 1, none⟩ = some (.slice A1' N.ids.length c1') := bx1.cell 1 (by simp)
  have kbx1_2 : WA.cell? ⟨w.heap.size, 2, none⟩ = some (.slice A1'' N.inputs.length c1'') := bx1.cell 2 (by simp)
  go_wp2_with fail
  clear kbx1_0 kbx1_1 kbx1_2
  refine (isOrientation_any _ N lo1 hi1 _ o lo2 hi2 _ G1.out (by omega) G2.out (by omega) hz1).mono ?_
  rintro e W1 ⟨rfl, hb1⟩
  have hg1 := grown_below hb1; clear hb1
  have hs1 := hg1.size
  have HF1 := Lib.hid ((Turned.refl WA.heap.size WA.heap.size WA).still hg1)
  by_cases hor : oriOk N o = true
  case neg =>
    have hor' : oriOk N o = false := by simpa using hor
    rw [hor']
    have HOR := Lib.hid hor'; clear hor hor'
    go_wp2_with fail
    go_ret2
    exact ⟨_, ret_vb HOR.out.symm, by unfold outRes; rw [HOR.out]; exact IntS.nil _ _ _, (HF1.out.below_of hbA (by omega) (by omega))⟩
  rw [hor]
  have HOR := Lib.hid hor; clear hor
  obtain ⟨_, hgd, hpb, hri, _⟩ := oriOk_parts HOR.out
  have HGD := Lib.hid hgd
  have HPB := Lib.hid hpb
  have HRI := Lib.hid hri
  clear hgd hpb hri
  obtain ⟨n1, n40⟩ := good_n HGD.out
  have hol : o.length ≤ N.ends.length := by have := ports_len HPB.out; omega
  have HRL := Lib.hid (fun v (hv : v < o.length) => show (nthL o v).length ≤ 1048576 by have := ports_row HPB.out (v := v) (by omega); have := good_deg HGD.out (v := v) (by omega); omega)
  have N_1 := Lib.hid (Net.turned G1.out HF1.out (by omega) (by omega)); clear G1
  have o_1 := Lib.hid (ISS.turned G2.out HF1.out (by omega) (by omega)); clear G2
  have bx1_1 := HF1.out.boxN bx1 (by omega); clear bx1
  have hbA1 := (HF1.out.below_of hbA (by omega) (by omega)); clear hbA HF1
  go_wp2_with fail
  go_loopw [15, 6] (fun i ov wr => ∃ (k : Nat) (zs : List Int), k ≤ o.length ∧ i = .int .i64 k ∧ Hid (OwnI wr W1.heap.size 3 ov zs) ∧ Hid (zs = (outDeg o).take k) ∧ zs.length ≤ k ∧ Hid (Turned W1.heap.size W1.heap.size W1 wr)) (fun i ov _ => o.length - (intOf i).toNat)
  case atStart => exact ⟨0, [], Nat.zero_le _, rfl, Lib.hid (OwnI.nil _ _ _), Lib.hid (by simp), Nat.zero_le _, Lib.hid (Turned.refl W1.heap.size W1.heap.size W1)⟩
  case round =>
    obtain ⟨k, zs, hk, rfl, HO, HD, hl, HF2⟩ := hrel
    have hs2 := HF2.out.size
    by_cases hlt : k < o.length
    case neg =>
      obtain rfl : k = o.length := by omega
      go_wp2_with fail
      go_ret2
      refine ⟨_, ret_vb HOR.out.symm, ?_, (HF2.out.below_of hbA1 (by omega) (by omega))⟩
      have e : outRes N o = zs := by unfold outRes; rw [HOR.out, if_pos rfl, HD.out, ← outDeg_length o, List.take_length]
      rw [e]
      exact HO.out.ints.mono (by omega) (Nat.le_refl _)
    obtain ⟨bs, os, us, rfl, _, hbs, zs, hus⟩ := SS.opened o_1.out hlt
    replace zs := (HF2.out.cell (by omega) (by omega)).trans zs
    obtain ⟨As, cs, rfl, hcs, hds⟩ := hus.dims
    have Us := Lib.hid hus; clear hus
    have hrl := HRL.out k hlt
    have hlv := HO.out.lt
    go_wp2_with (first | (go_at_call 86; refine (ones_any _ (nthL o k) _ _ _ (IntS.turned Us.out HF2.out (by omega) (by omega)) (by omega) hrl).mono ?_; rintro e w' ⟨rfl, rfl⟩) | (at_builtin; refine append_int (s := .tmp 19) Try.underlying23 Try.info3 (by decide) wr rfl _ rfl HO.out (onesI (nthL o k)) _ rfl (by simp [Act.eval, go_sem]) (by omega) (by omega) ?_; intro v' w' ho' hg' hat'))
    go_roundw
    case rel =>
      refine ⟨k + 1, _, by omega, by go_num, Lib.hid ho', Lib.hid ?_, by simp; omega, Lib.hid (HF2.out.grown hg' fun g hg => .inr (hlv g hg).1)⟩
      rw [List.take_succ_eq_append_getElem (by rw [outDeg_length]; exact hlt), ← nth_eq, nth_outDeg hlt, ← HD.out]
    case measure => simp [intOf]; omega

end Go.Proofs.Ytapfighdnfmdcaa
