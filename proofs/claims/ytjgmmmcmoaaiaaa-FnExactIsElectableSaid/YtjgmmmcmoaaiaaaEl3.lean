/-
  Contracts: classes of views, and whether no two nodes are twins (reference).
-/
import Derived.Test.YtjgmmmcmoaaiaaaEl2
namespace Go.Proofs.Ytjgmmmcmoaaiaaa
open Go.ChangeShapes Go.WideShapes Go.ChangeAt Go.RowKit
set_option linter.unusedVariables false

def alikeB (N : NetD) (c : List Int) (u v : Nat) : Bool := decide (vkey N c u = vkey N c v)
theorem alikeB_of {N : NetD} (hg : N.good = true) {c : List Int} {u v : Nat} (b : Bool) (h : (b = true) = alike N c u v) : alikeB N c u v = b := by
  have h2 := vkey_iff (N := N) (c := c) (u := u) (v := v) (good_h6 hg u)
  unfold alikeB
  rw [Bool.eq_iff_iff, decide_eq_true_eq, h2, h]
theorem alikeB_no {N : NetD} (hg : N.good = true) {c : List Int} {u v : Nat} (h : ¬ alike N c u v) : alikeB N c u v = false := alikeB_of hg false (by simp [h])
theorem alikeB_yes {N : NetD} (hg : N.good = true) {c : List Int} {u v : Nat} (h : alike N c u v) : alikeB N c u v = true := alikeB_of hg true (by simp [h])

set_option maxHeartbeats 2000000 in
set_option maxRecDepth 100000 in
theorem viAlike0_any (v1 : Value) (N : NetD) (lo1 hi1 : Nat) (cv : Value) (u : Nat) (v : Nat) (w : World) (h1 : Net w lo1 hi1 v1 N) (hh1 : hi1 ≤ w.heap.size) (hg : N.good = true) (hcv : cv = .slice none 0 0) (hu : u < N.ends.length) (hv : v < N.ends.length) :
    Calls Try.prog 53 #[v1, cv, .int .i64 (u : Nat), .int .i64 (v : Nat)] w fun e w' => e = .returned (.bool (alikeB N [] u v)) ∧ Below w.heap.size w w' := by
  subst hcv
  obtain ⟨n1, n40⟩ := good_n hg
  have HG := Lib.hid hg; clear hg
  have HIL := Lib.hid (good_inp HG.out).1
  have F1 := Lib.hid h1
  obtain ⟨A1, c1, A1', c1', A1'', c1'', rfl, hc1, hd1, _⟩ := h1.parts
  obtain ⟨b1, o1, _, _, rfl, _⟩ := Net.rowAt F1.out (u := 0) (by omega)
  clear h1
  obtain ⟨WA, HWA⟩ : ∃ W, Hid (W = (w.alloc (.cells #[.slice (some ⟨b1, o1, none⟩) N.ends.length c1, .slice A1' N.ids.length c1', .slice A1'' N.inputs.length c1''] 31))) := ⟨_, Lib.hid rfl⟩
  have hbA : Below w.heap.size w WA := by rw [HWA.out]; exact ((Below.refl _ _).alloc (Nat.le_refl _) _)
  have hsA : w.heap.size + 1 ≤ WA.heap.size := by rw [HWA.out]; simp; try omega
  have bx1 : BoxN WA (w.heap.size) #[.slice (some ⟨b1, o1, none⟩) N.ends.length c1, .slice A1' N.ids.length c1', .slice A1'' N.inputs.length c1''] 31 := by rw [HWA.out]; exact (BoxN.new' _ _ _ (by simp))
  have G1 := Lib.hid (Net.below F1.out hbA hh1); clear F1
  go_enter Try.func53, Try.ntmps53
  go_upto_region 1 with (fail)
  rw [← HWA.out]; clear HWA
  have HINP := Lib.hid (Net.inp G1.out)
  obtain ⟨bi, oi, rfl, _, hbi, _, _⟩ := IntS.opened HINP.out (j := 0) (by rw [HIL.out]; omega)
  obtain ⟨Ar, cr, hbr, qr, hcr, hdr, hRr⟩ := Net.rowIn G1.out hu
  have Rr := Lib.hid hRr; clear hRr
  obtain ⟨As, cs, hbs, qs, hcs, hds, hRs⟩ := Net.rowIn G1.out hv
  have Rs := Lib.hid hRs; clear hRs
  have xi := (HINP.out.at_ (by rw [HIL.out]; exact hu)).1
  have xj := (HINP.out.at_ (by rw [HIL.out]; exact hv)).1
  have hui : (u : Int) < N.ends.length := by omega
  have hvi : (v : Int) < N.ends.length := by omega
  have huj : (u : Int) < N.inputs.length := by rw [HIL.out]; omega
  have hvj : (v : Int) < N.inputs.length := by rw [HIL.out]; omega
  obtain ⟨iu, HIU⟩ : ∃ y, Hid (nth N.inputs u = y) := ⟨_, Lib.hid rfl⟩
  obtain ⟨iv, HIV⟩ : ∃ y, Hid (nth N.inputs v = y) := ⟨_, Lib.hid rfl⟩
  obtain ⟨du, HDU⟩ : ∃ y, Hid ((nthL N.ends u).length = y) := ⟨_, Lib.hid rfl⟩
  obtain ⟨dv, HDV⟩ : ∃ y, Hid ((nthL N.ends v).length = y) := ⟨_, Lib.hid rfl⟩
  have hd6 := good_deg HG.out hu
  rw [HIU.out] at xi
  rw [HIV.out] at xj
  rw [HDU.out] at qr hcr hd6 Rr
  rw [HDV.out] at qs hcs Rs
  have kbx1_0 : WA.cell? ⟨w.heap.size, 0, none⟩ = some (.slice (some ⟨b1, o1, none⟩) N.ends.length c1) := bx1.cell 0 (by simp)
  have kbx1_1 : WA.cell? ⟨w.heap.size, 1, none⟩ = some (.slice A1' N.ids.length c1') := bx1.cell 1 (by simp)
  have kbx1_2 : WA.cell? ⟨w.heap.size, 2, none⟩ = some (.slice (some ⟨bi, oi, none⟩) N.inputs.length c1'') := bx1.cell 2 (by simp)
  by_cases hdd : du = dv
  case neg =>
    have hdd' : ((du : Int) != (dv : Int)) = true := by simp; omega
    have HDD := Lib.hid hdd; clear hdd
    go_quiet (fail)
    go_wp2_with fail
    go_ret
    exact ⟨ret_bool (alikeB_no HG.out fun h => HDD.out (by rw [← HDU.out, ← HDV.out]; exact h.1)).symm, below_drewN (hbA) nq⟩
  subst hdd
  have hdd' : ((du : Int) != (du : Int)) = false := by simp
  by_cases hii : iu = iv
  case neg =>
    have hii' : (iu != iv) = true := by simpa using hii
    have HII := Lib.hid hii; clear hii
    go_quiet (fail)
    go_wp2_with fail
    go_ret
    exact ⟨ret_bool (alikeB_no HG.out fun h => HII.out (by rw [← HIU.out, ← HIV.out]; exact h.2.1)).symm, below_drewN (hbA) nq⟩
  have hii' : (iu != iv) = false := by simp [hii]
  have HII := Lib.hid hii; clear hii
  go_quiet (fail)
  have QR := Lib.hid qr
  have QS := Lib.hid qs
  obtain ⟨wd, HWD⟩ : ∃ W, Hid (W = WA.drewN nq) := ⟨_, Lib.hid rfl⟩
  rw [← HWD.out]
  have hgd : WA.grownBy wd none := by rw [HWD.out]; exact grown_drewN _ _
  clear HWD kbx1_0 kbx1_1 kbx1_2 qr qs xi xj
  have hs0 := hgd.size
  have HF0 := Lib.hid ((Turned.refl WA.heap.size WA.heap.size WA).still hgd)
  have kbx1_0 : wd.cell? ⟨w.heap.size, 0, none⟩ = some (.slice (some ⟨b1, o1, none⟩) N.ends.length c1) := (HF0.out.boxN bx1 (by omega)).cell 0 (by simp)
  have kbx1_1 : wd.cell? ⟨w.heap.size, 1, none⟩ = some (.slice A1' N.ids.length c1') := (HF0.out.boxN bx1 (by omega)).cell 1 (by simp)
  have kbx1_2 : wd.cell? ⟨w.heap.size, 2, none⟩ = some (.slice (some ⟨bi, oi, none⟩) N.inputs.length c1'') := (HF0.out.boxN bx1 (by omega)).cell 2 (by simp)
  have qr := (HF0.out.cell (by omega) (by omega)).trans QR.out
  go_wp2_with fail
  clear kbx1_0 kbx1_1 kbx1_2 qr
  go_loopw [44] (fun iv wr => ∃ (i : Nat), i ≤ du ∧ iv = .int .i64 i ∧ Hid (0 < ([] : List Int).length → ∀ j, j < i → (nthE (nthL N.ends u) j).2 = (nthE (nthL N.ends v) j).2 ∧ nth [] (nthE (nthL N.ends u) j).1.toNat = nth [] (nthE (nthL N.ends v) j).1.toNat) ∧ Hid (Turned WA.heap.size WA.heap.size WA wr)) (fun iv _ => du - (intOf iv).toNat)
  case atStart => exact ⟨0, Nat.zero_le _, rfl, Lib.hid fun _ j hj => absurd hj (by omega), HF0⟩
  case round =>
    clear HF0
    obtain ⟨i, hi, rfl, HALL, HF1⟩ := hrel
    have hs1 := HF1.out.size
    by_cases hlt : i < du
    case neg =>
      obtain rfl : i = du := by omega
      go_wp2_with fail
      go_ret
      exact ⟨ret_bool (alikeB_yes HG.out ⟨by rw [HDU.out, HDV.out], by rw [HIU.out, HIV.out, HII.out], fun hc j hj => HALL.out hc j (by rw [HDU.out] at hj; exact hj)⟩).symm, (HF1.out.below_of hbA (by omega) (by omega))⟩
    have hii : (i : Int) < du := by omega
    obtain ⟨wq, rfl⟩ : ∃ wq : World, wq = wr := ⟨_, rfl⟩
    obtain ⟨br, or, rfl, _, hbr', er, er'⟩ := (EndS.turned Rr.out HF1.out (by omega) (by omega)).opened (by rw [HDU.out]; exact hlt)
    obtain ⟨t, r, etr, ht, hr, eur⟩ := good_end HG.out hu (by rw [HDU.out]; exact hlt)
    rw [etr] at er er'
    dsimp only at er er'
    have ETr := Lib.hid etr
    have EUr := Lib.hid eur
    clear etr eur
    go_upto_region 6 with (fail)
    refine nameC ?_
    intro W2 HW2
    have hg2 : wq.grownBy W2 none := by rw [HW2.out]; exact grown_alloc _ _
    have hs2 := hg2.size
    have HF2 := Lib.hid (HF1.out.still hg2); clear HF1
    have bxe2 := Lib.hid (show BoxN W2 wq.heap.size #[.int .i64 t, .int .i64 r] 53 by rw [HW2.out]; exact BoxN.new _ _ _)
    clear HW2
    clear er er'
    have kbx1_0 : W2.cell? ⟨w.heap.size, 0, none⟩ = some (.slice (some ⟨b1, o1, none⟩) N.ends.length c1) := (HF2.out.boxN bx1 (by omega)).cell 0 (by simp)
    have kbx1_1 : W2.cell? ⟨w.heap.size, 1, none⟩ = some (.slice A1' N.ids.length c1') := (HF2.out.boxN bx1 (by omega)).cell 1 (by simp)
    have kbx1_2 : W2.cell? ⟨w.heap.size, 2, none⟩ = some (.slice (some ⟨bi, oi, none⟩) N.inputs.length c1'') := (HF2.out.boxN bx1 (by omega)).cell 2 (by simp)
    have qs := (HF2.out.cell (by omega) (by omega)).trans QS.out
    obtain ⟨bs, os, rfl, _, hbs', es, es'⟩ := (EndS.turned Rs.out HF2.out (by omega) (by omega)).opened (by rw [HDV.out]; exact hlt)
    obtain ⟨t2, r2, ets, ht2, hr2, eus⟩ := good_end HG.out hv (by rw [HDV.out]; exact hlt)
    rw [ets] at es es'
    dsimp only at es es'
    have ETs := Lib.hid ets
    have EUs := Lib.hid eus
    clear ets eus
    go_upto_region 7 with (fail)
    refine nameC ?_
    intro W3 HW3
    have hg3 : W2.grownBy W3 none := by rw [HW3.out]; exact grown_alloc _ _
    have hs3 := hg3.size
    have HF3 := Lib.hid (HF2.out.still hg3); clear HF2
    have bxe3 := Lib.hid (BoxN.still bxe2.out hg3); clear bxe2
    have bxf3 := Lib.hid (show BoxN W3 W2.heap.size #[.int .i64 t2, .int .i64 r2] 53 by rw [HW3.out]; exact BoxN.new _ _ _)
    clear HW3
    clear es es' qs kbx1_0 kbx1_1 kbx1_2
    have kbxe_0 : W3.cell? ⟨wq.heap.size, 0, none⟩ = some (.int .i64 t) := bxe3.out.cell 0 (by simp)
    have kbxe_1 : W3.cell? ⟨wq.heap.size, 1, none⟩ = some (.int .i64 r) := bxe3.out.cell 1 (by simp)
    have kbxf_0 : W3.cell? ⟨W2.heap.size, 0, none⟩ = some (.int .i64 t2) := bxf3.out.cell 0 (by simp)
    have kbxf_1 : W3.cell? ⟨W2.heap.size, 1, none⟩ = some (.int .i64 r2) := bxf3.out.cell 1 (by simp)
    go_quiet (fail)
    go_wp2_with fail
    go_roundw
    case rel => exact ⟨i + 1, by omega, by go_num, Lib.hid fun h => absurd h (by simp), Lib.hid (HF3.out.still (grown_drewN _ _))⟩
    case measure => simp [intOf]; omega

set_option maxHeartbeats 2000000 in
set_option maxRecDepth 100000 in
theorem viAlike_any (v1 : Value) (N : NetD) (lo1 hi1 : Nat) (v2 : Value) (c : List Int) (lo2 hi2 : Nat) (u : Nat) (v : Nat) (w : World) (h1 : Net w lo1 hi1 v1 N) (hh1 : hi1 ≤ w.heap.size) (h2 : IntS w lo2 hi2 v2 c) (hh2 : hi2 ≤ w.heap.size) (hg : N.good = true) (hcl : c.length = N.ends.length) (hu : u < N.ends.length) (hv : v < N.ends.length) :
    Calls Try.prog 53 #[v1, v2, .int .i64 (u : Nat), .int .i64 (v : Nat)] w fun e w' => e = .returned (.bool (alikeB N c u v)) ∧ Below w.heap.size w w' := by
  have HCL := Lib.hid hcl; clear hcl
  obtain ⟨n1, n40⟩ := good_n hg
  have HG := Lib.hid hg; clear hg
  have HIL := Lib.hid (good_inp HG.out).1
  have F1 := Lib.hid h1
  obtain ⟨A1, c1, A1', c1', A1'', c1'', rfl, hc1, hd1, _⟩ := h1.parts
  obtain ⟨b1, o1, _, _, rfl, _⟩ := Net.rowAt F1.out (u := 0) (by omega)
  clear h1
  have F2 := Lib.hid h2
  obtain ⟨A2, c2, rfl, hc2, hd2⟩ := h2.dims
  clear h2
  obtain ⟨WA, HWA⟩ : ∃ W, Hid (W = (w.alloc (.cells #[.slice (some ⟨b1, o1, none⟩) N.ends.length c1, .slice A1' N.ids.length c1', .slice A1'' N.inputs.length c1''] 31))) := ⟨_, Lib.hid rfl⟩
  have hbA : Below w.heap.size w WA := by rw [HWA.out]; exact ((Below.refl _ _).alloc (Nat.le_refl _) _)
  have hsA : w.heap.size + 1 ≤ WA.heap.size := by rw [HWA.out]; simp; try omega
  have bx1 : BoxN WA (w.heap.size) #[.slice (some ⟨b1, o1, none⟩) N.ends.length c1, .slice A1' N.ids.length c1', .slice A1'' N.inputs.length c1''] 31 := by rw [HWA.out]; exact (BoxN.new' _ _ _ (by simp))
  have G1 := Lib.hid (Net.below F1.out hbA hh1); clear F1
  have G2 := Lib.hid (IntS.below F2.out hbA hh2); clear F2
  go_enter Try.func53, Try.ntmps53
  go_upto_region 1 with (fail)
  rw [← HWA.out]; clear HWA
  have HINP := Lib.hid (Net.inp G1.out)
  obtain ⟨bi, oi, rfl, _, hbi, _, _⟩ := IntS.opened HINP.out (j := 0) (by rw [HIL.out]; omega)
  obtain ⟨bc, oc, rfl, _, hbc, _, _⟩ := IntS.opened G2.out (j := 0) (by rw [HCL.out]; omega)
  obtain ⟨Ar, cr, hbr, qr, hcr, hdr, hRr⟩ := Net.rowIn G1.out hu
  have Rr := Lib.hid hRr; clear hRr
  obtain ⟨As, cs, hbs, qs, hcs, hds, hRs⟩ := Net.rowIn G1.out hv
  have Rs := Lib.hid hRs; clear hRs
  have xi := (HINP.out.at_ (by rw [HIL.out]; exact hu)).1
  have xj := (HINP.out.at_ (by rw [HIL.out]; exact hv)).1
  have hui : (u : Int) < N.ends.length := by omega
  have hvi : (v : Int) < N.ends.length := by omega
  have huj : (u : Int) < N.inputs.length := by rw [HIL.out]; omega
  have hvj : (v : Int) < N.inputs.length := by rw [HIL.out]; omega
  obtain ⟨iu, HIU⟩ : ∃ y, Hid (nth N.inputs u = y) := ⟨_, Lib.hid rfl⟩
  obtain ⟨iv, HIV⟩ : ∃ y, Hid (nth N.inputs v = y) := ⟨_, Lib.hid rfl⟩
  obtain ⟨du, HDU⟩ : ∃ y, Hid ((nthL N.ends u).length = y) := ⟨_, Lib.hid rfl⟩
  obtain ⟨dv, HDV⟩ : ∃ y, Hid ((nthL N.ends v).length = y) := ⟨_, Lib.hid rfl⟩
  have hd6 := good_deg HG.out hu
  rw [HIU.out] at xi
  rw [HIV.out] at xj
  rw [HDU.out] at qr hcr hd6 Rr
  rw [HDV.out] at qs hcs Rs
  have kbx1_0 : WA.cell? ⟨w.heap.size, 0, none⟩ = some (.slice (some ⟨b1, o1, none⟩) N.ends.length c1) := bx1.cell 0 (by simp)
  have kbx1_1 : WA.cell? ⟨w.heap.size, 1, none⟩ = some (.slice A1' N.ids.length c1') := bx1.cell 1 (by simp)
  have kbx1_2 : WA.cell? ⟨w.heap.size, 2, none⟩ = some (.slice (some ⟨bi, oi, none⟩) N.inputs.length c1'') := bx1.cell 2 (by simp)
  by_cases hdd : du = dv
  case neg =>
    have hdd' : ((du : Int) != (dv : Int)) = true := by simp; omega
    have HDD := Lib.hid hdd; clear hdd
    go_quiet (fail)
    go_wp2_with fail
    go_ret
    exact ⟨ret_bool (alikeB_no HG.out fun h => HDD.out (by rw [← HDU.out, ← HDV.out]; exact h.1)).symm, below_drewN (hbA) nq⟩
  subst hdd
  have hdd' : ((du : Int) != (du : Int)) = false := by simp
  by_cases hii : iu = iv
  case neg =>
    have hii' : (iu != iv) = true := by simpa using hii
    have HII := Lib.hid hii; clear hii
    go_quiet (fail)
    go_wp2_with fail
    go_ret
    exact ⟨ret_bool (alikeB_no HG.out fun h => HII.out (by rw [← HIU.out, ← HIV.out]; exact h.2.1)).symm, below_drewN (hbA) nq⟩
  have hii' : (iu != iv) = false := by simp [hii]
  have HII := Lib.hid hii; clear hii
  go_quiet (fail)
  have QR := Lib.hid qr
  have QS := Lib.hid qs
  obtain ⟨wd, HWD⟩ : ∃ W, Hid (W = WA.drewN nq) := ⟨_, Lib.hid rfl⟩
  rw [← HWD.out]
  have hgd : WA.grownBy wd none := by rw [HWD.out]; exact grown_drewN _ _
  clear HWD kbx1_0 kbx1_1 kbx1_2 qr qs xi xj
  have hs0 := hgd.size
  have HF0 := Lib.hid ((Turned.refl WA.heap.size WA.heap.size WA).still hgd)
  have kbx1_0 : wd.cell? ⟨w.heap.size, 0, none⟩ = some (.slice (some ⟨b1, o1, none⟩) N.ends.length c1) := (HF0.out.boxN bx1 (by omega)).cell 0 (by simp)
  have kbx1_1 : wd.cell? ⟨w.heap.size, 1, none⟩ = some (.slice A1' N.ids.length c1') := (HF0.out.boxN bx1 (by omega)).cell 1 (by simp)
  have kbx1_2 : wd.cell? ⟨w.heap.size, 2, none⟩ = some (.slice (some ⟨bi, oi, none⟩) N.inputs.length c1'') := (HF0.out.boxN bx1 (by omega)).cell 2 (by simp)
  have qr := (HF0.out.cell (by omega) (by omega)).trans QR.out
  go_wp2_with fail
  clear kbx1_0 kbx1_1 kbx1_2 qr
  go_loopw [44] (fun iv wr => ∃ (i : Nat), i ≤ du ∧ iv = .int .i64 i ∧ Hid (0 < (c : List Int).length → ∀ j, j < i → (nthE (nthL N.ends u) j).2 = (nthE (nthL N.ends v) j).2 ∧ nth c (nthE (nthL N.ends u) j).1.toNat = nth c (nthE (nthL N.ends v) j).1.toNat) ∧ Hid (Turned WA.heap.size WA.heap.size WA wr)) (fun iv _ => du - (intOf iv).toNat)
  case atStart => exact ⟨0, Nat.zero_le _, rfl, Lib.hid fun _ j hj => absurd hj (by omega), HF0⟩
  case round =>
    clear HF0
    obtain ⟨i, hi, rfl, HALL, HF1⟩ := hrel
    have hs1 := HF1.out.size
    by_cases hlt : i < du
    case neg =>
      obtain rfl : i = du := by omega
      go_wp2_with fail
      go_ret
      exact ⟨ret_bool (alikeB_yes HG.out ⟨by rw [HDU.out, HDV.out], by rw [HIU.out, HIV.out, HII.out], fun hc j hj => HALL.out hc j (by rw [HDU.out] at hj; exact hj)⟩).symm, (HF1.out.below_of hbA (by omega) (by omega))⟩
    have hii : (i : Int) < du := by omega
    obtain ⟨wq, rfl⟩ : ∃ wq : World, wq = wr := ⟨_, rfl⟩
    obtain ⟨br, or, rfl, _, hbr', er, er'⟩ := (EndS.turned Rr.out HF1.out (by omega) (by omega)).opened (by rw [HDU.out]; exact hlt)
    obtain ⟨t, r, etr, ht, hr, eur⟩ := good_end HG.out hu (by rw [HDU.out]; exact hlt)
    rw [etr] at er er'
    dsimp only at er er'
    have ETr := Lib.hid etr
    have EUr := Lib.hid eur
    clear etr eur
    go_upto_region 6 with (fail)
    refine nameC ?_
    intro W2 HW2
    have hg2 : wq.grownBy W2 none := by rw [HW2.out]; exact grown_alloc _ _
    have hs2 := hg2.size
    have HF2 := Lib.hid (HF1.out.still hg2); clear HF1
    have bxe2 := Lib.hid (show BoxN W2 wq.heap.size #[.int .i64 t, .int .i64 r] 53 by rw [HW2.out]; exact BoxN.new _ _ _)
    clear HW2
    clear er er'
    have kbx1_0 : W2.cell? ⟨w.heap.size, 0, none⟩ = some (.slice (some ⟨b1, o1, none⟩) N.ends.length c1) := (HF2.out.boxN bx1 (by omega)).cell 0 (by simp)
    have kbx1_1 : W2.cell? ⟨w.heap.size, 1, none⟩ = some (.slice A1' N.ids.length c1') := (HF2.out.boxN bx1 (by omega)).cell 1 (by simp)
    have kbx1_2 : W2.cell? ⟨w.heap.size, 2, none⟩ = some (.slice (some ⟨bi, oi, none⟩) N.inputs.length c1'') := (HF2.out.boxN bx1 (by omega)).cell 2 (by simp)
    have qs := (HF2.out.cell (by omega) (by omega)).trans QS.out
    obtain ⟨bs, os, rfl, _, hbs', es, es'⟩ := (EndS.turned Rs.out HF2.out (by omega) (by omega)).opened (by rw [HDV.out]; exact hlt)
    obtain ⟨t2, r2, ets, ht2, hr2, eus⟩ := good_end HG.out hv (by rw [HDV.out]; exact hlt)
    rw [ets] at es es'
    dsimp only at es es'
    have ETs := Lib.hid ets
    have EUs := Lib.hid eus
    clear ets eus
    go_upto_region 7 with (fail)
    refine nameC ?_
    intro W3 HW3
    have hg3 : W2.grownBy W3 none := by rw [HW3.out]; exact grown_alloc _ _
    have hs3 := hg3.size
    have HF3 := Lib.hid (HF2.out.still hg3); clear HF2
    have bxe3 := Lib.hid (BoxN.still bxe2.out hg3); clear bxe2
    have bxf3 := Lib.hid (show BoxN W3 W2.heap.size #[.int .i64 t2, .int .i64 r2] 53 by rw [HW3.out]; exact BoxN.new _ _ _)
    clear HW3
    clear es es' qs kbx1_0 kbx1_1 kbx1_2
    have kbxe_0 : W3.cell? ⟨wq.heap.size, 0, none⟩ = some (.int .i64 t) := bxe3.out.cell 0 (by simp)
    have kbxe_1 : W3.cell? ⟨wq.heap.size, 1, none⟩ = some (.int .i64 r) := bxe3.out.cell 1 (by simp)
    have kbxf_0 : W3.cell? ⟨W2.heap.size, 0, none⟩ = some (.int .i64 t2) := bxf3.out.cell 0 (by simp)
    have kbxf_1 : W3.cell? ⟨W2.heap.size, 1, none⟩ = some (.int .i64 r2) := bxf3.out.cell 1 (by simp)
    have hcp : (0 : Int) < c.length := by rw [HCL.out]; omega
    have hcp' : decide ((0 : Int) < (c.length : Int)) = true := decide_eq_true hcp
    obtain ⟨y1, HY1⟩ : ∃ y, Hid (nth c t = y) := ⟨_, Lib.hid rfl⟩
    obtain ⟨y2, HY2⟩ : ∃ y, Hid (nth c t2 = y) := ⟨_, Lib.hid rfl⟩
    have htl : t < c.length := by rw [HCL.out]; exact ht
    have ht2l : t2 < c.length := by rw [HCL.out]; exact ht2
    have hti : (t : Int) < c.length := by omega
    have ht2i : (t2 : Int) < c.length := by omega
    have z1 := (IntS.at_ (IntS.turned G2.out HF3.out (by omega) (by omega)) (j := t) htl).1
    rw [HY1.out] at z1
    have z2 := (IntS.at_ (IntS.turned G2.out HF3.out (by omega) (by omega)) (j := t2) ht2l).1
    rw [HY2.out] at z2
    have hlc0 : 0 < c.length := by omega
    have hlc1 : decide (0 < c.length) = true := decide_eq_true hlc0
    have hcn : ¬ c = [] := fun e => by rw [e] at hlc0; simp at hlc0
    clear htl ht2l
    by_cases hpp : r = r2
    case neg =>
      have hpp' : ((r : Int) != (r2 : Int)) = true := by simp; omega
      have HPP := Lib.hid hpp; clear hpp
      go_quiet (fail)
      go_wp2_with fail
      go_ret
      exact ⟨ret_bool (alikeB_no HG.out fun h => HPP.out (by have := (h.2.2 (by omega) i (by rw [HDU.out]; exact hlt)).1; rw [ETr.out, ETs.out] at this; have h9 : (r : Int) = r2 := this; omega)).symm, below_drewN ((HF3.out.below_of hbA (by omega) (by omega))) nq⟩
    subst hpp
    have hpp' : ((r : Int) != (r : Int)) = false := by simp
    by_cases hyy : y1 = y2
    case neg =>
      have hyy' : (y1 != y2) = true := by simpa using hyy
      have HYY := Lib.hid hyy; clear hyy
      go_quiet (fail)
      go_wp2_with fail
      go_ret
      exact ⟨ret_bool (alikeB_no HG.out fun h => HYY.out (by have := (h.2.2 (by omega) i (by rw [HDU.out]; exact hlt)).2; rw [ETr.out, ETs.out] at this; simp only [Int.toNat_natCast] at this; rw [← HY1.out, ← HY2.out]; exact this)).symm, below_drewN ((HF3.out.below_of hbA (by omega) (by omega))) nq⟩
    subst hyy
    have hyy' : (y1 != y1) = false := by simp
    go_quiet (fail)
    go_wp2_with fail
    go_roundw
    case rel =>
      refine ⟨i + 1, by omega, by go_num, Lib.hid fun hc j hj => ?_, Lib.hid (HF3.out.still (grown_drewN _ _))⟩
      by_cases e : j = i
      · subst e
        rw [ETr.out, ETs.out]
        simp only [Int.toNat_natCast]
        exact ⟨by first | trivial | rfl, by rw [HY1.out, HY2.out]⟩
      · exact HALL.out hc j (by omega)
    case measure => simp [intOf]; omega

set_option maxHeartbeats 2000000 in
set_option maxRecDepth 100000 in
theorem viStep0_any (v1 : Value) (N : NetD) (lo1 hi1 : Nat) (cv : Value) (w : World) (h1 : Net w lo1 hi1 v1 N) (hh1 : hi1 ≤ w.heap.size) (hg : N.good = true) (hcv : cv = .slice none 0 0) :
    Calls Try.prog 43 #[v1, cv] w fun e w' => ∃ r, e = .returned (r) ∧ IntS w' w.heap.size w'.heap.size r (vstep N []) ∧ Below w.heap.size w w' := by
  subst hcv
  obtain ⟨n1, n40⟩ := good_n hg
  have HG := Lib.hid hg; clear hg
  have hmk := fun W => run_make_row' (P := Try.prog) 23 3 (.int .i64 0) 8 Try.underlying23 Try.info3 rfl .i64 .i64 N.ends.length (by omega) (by omega) W
  have F1 := Lib.hid h1
  obtain ⟨A1, c1, A1', c1', A1'', c1'', rfl, hc1, hd1, _⟩ := h1.parts
  clear h1
  obtain ⟨WA, HWA⟩ : ∃ W, Hid (W = (w.alloc (.cells #[.slice A1 N.ends.length c1, .slice A1' N.ids.length c1', .slice A1'' N.inputs.length c1''] 31))) := ⟨_, Lib.hid rfl⟩
  have hbA : Below w.heap.size w WA := by rw [HWA.out]; exact ((Below.refl _ _).alloc (Nat.le_refl _) _)
  have hsA : w.heap.size + 1 ≤ WA.heap.size := by rw [HWA.out]; simp; try omega
  have bx1 : BoxN WA (w.heap.size) #[.slice A1 N.ends.length c1, .slice A1' N.ids.length c1', .slice A1'' N.inputs.length c1''] 31 := by rw [HWA.out]; exact (BoxN.new' _ _ _ (by simp))
  have G1 := Lib.hid (Net.below F1.out hbA hh1); clear F1
  go_enter Try.func43, Try.ntmps43
  go_upto_region 1 with (fail)
  rw [← HWA.out]; clear HWA
  obtain ⟨key, HKEY⟩ : ∃ key, Hid (vkey N [] = key) := ⟨_, Lib.hid rfl⟩
  have kbx1_0 : WA.cell? ⟨w.heap.size, 0, none⟩ = some (.slice A1 N.ends.length c1) := bx1.cell 0 (by simp)
  have kbx1_1 : WA.cell? ⟨w.heap.size, 1, none⟩ = some (.slice A1' N.ids.length c1') := bx1.cell 1 (by simp)
  have kbx1_2 : WA.cell? ⟨w.heap.size, 2, none⟩ = some (.slice A1'' N.inputs.length c1'') := bx1.cell 2 (by simp)
  go_upto_region 2 with (fail)
  refine nameC ?_
  intro W1 HW1
  have hg1 : WA.grownBy W1 none := by rw [HW1.out]; exact grown_alloc _ _
  have hs1 := hg1.size
  have HF1 := Lib.hid ((Turned.refl WA.heap.size WA.heap.size WA).still hg1)
  have HO := Lib.hid (show IntS W1 WA.heap.size (WA.heap.size + 1) (.slice (some ⟨WA.heap.size, 0, none⟩) N.ends.length N.ends.length) (List.replicate N.ends.length 0) by rw [HW1.out]; exact made_ints _ _ _ rfl (by omega))
  have hz : WA.heap.size + 1 ≤ W1.heap.size := by rw [HW1.out]; simp
  clear HW1 hmk kbx1_0 kbx1_1 kbx1_2
  have kbx1_0 : W1.cell? ⟨w.heap.size, 0, none⟩ = some (.slice A1 N.ends.length c1) := (HF1.out.boxN bx1 (by omega)).cell 0 (by simp)
  have kbx1_1 : W1.cell? ⟨w.heap.size, 1, none⟩ = some (.slice A1' N.ids.length c1') := (HF1.out.boxN bx1 (by omega)).cell 1 (by simp)
  have kbx1_2 : W1.cell? ⟨w.heap.size, 2, none⟩ = some (.slice A1'' N.inputs.length c1'') := (HF1.out.boxN bx1 (by omega)).cell 2 (by simp)
  go_wp2_with fail
  clear kbx1_0 kbx1_1 kbx1_2
  go_loopw [17, 6] (fun i mv wr => ∃ (k : Nat) (zs : List Int), k ≤ N.ends.length ∧ i = .int .i64 k ∧ mv = .int .i64 (many key k : Nat) ∧ Hid (IntS wr WA.heap.size (WA.heap.size + 1) (.slice (some ⟨WA.heap.size, 0, none⟩) N.ends.length N.ends.length) zs) ∧ Hid (zs.length = N.ends.length) ∧ Hid (∀ j, j < N.ends.length → nth zs j = if j < k then (fun j => (cls key j : Int)) j else 0) ∧ WA.heap.size + 1 ≤ wr.heap.size ∧ Hid (Turned WA.heap.size WA.heap.size WA wr)) (fun i mv _ => N.ends.length - (intOf i).toNat)
  case atStart => exact ⟨0, List.replicate N.ends.length 0, Nat.zero_le _, rfl, rfl, HO, Lib.hid (by simp), Lib.hid fun j hj => by rw [nth_replicate _ _ hj]; simp, hz, HF1⟩
  case round =>
    clear HF1
    obtain ⟨k, zs, hk, rfl, rfl, HO, HL, HZ, hz, HF2⟩ := hrel
    have hs2 := HF2.out.size
    by_cases hlt : k < N.ends.length
    case neg =>
      obtain rfl : k = N.ends.length := by omega
      go_wp2_with fail
      go_ret
      refine ⟨_, rfl, ?_, (HF2.out.below_of hbA (by omega) (by omega))⟩
      have e : vstep N [] = zs := ext_nth (by rw [vstep_length, HL.out]) fun j hj => by
        rw [vstep_length] at hj
        rw [HZ.out j hj, if_pos hj]
        unfold vstep
        rw [nth_clsL hj, HKEY.out]
      rw [e]
      exact IntS.mono HO.out (by omega) (by omega)
    obtain ⟨wq, rfl⟩ : ∃ wq : World, wq = wr := ⟨_, rfl⟩
    have hki : (k : Int) < N.ends.length := by omega
    have hmle := many_le key k
    obtain ⟨mk, HMK⟩ : ∃ x, Hid (many key k = x) := ⟨_, Lib.hid rfl⟩
    rw [HMK.out] at hmle
    rw [HMK.out]
    go_wp2_with fail
    go_loopw [9, 8] (fun uv av wr => ∃ (u : Nat) (a : Int), u ≤ k ∧ uv = .int .i64 u ∧ av = .int .i64 a ∧ Hid ((a = -1 ∧ ∀ x, x < u → key x ≠ key k) ∨ ∃ x : Nat, x < k ∧ a = x ∧ key x = key k) ∧ Hid (IntS wr WA.heap.size (WA.heap.size + 1) (.slice (some ⟨WA.heap.size, 0, none⟩) N.ends.length N.ends.length) zs) ∧ wq.heap.size ≤ wr.heap.size ∧ Hid (Turned WA.heap.size WA.heap.size WA wr)) (fun uv av _ => k - (intOf uv).toNat)
    case atStart => exact ⟨0, -1, Nat.zero_le _, rfl, rfl, Lib.hid (.inl ⟨rfl, fun x hx => absurd hx (by omega)⟩), HO, Nat.le_refl _, HF2⟩
    case round =>
      clear HF2
      obtain ⟨u, a, hu, rfl, rfl, HA, HO, hz2, HF3⟩ := hrel
      have hs3 := HF3.out.size
      obtain ⟨wp, rfl⟩ : ∃ wp : World, wp = wr := ⟨_, rfl⟩
      rcases HA.out with ⟨rfl, hno⟩ | ⟨x, hxk, rfl, hxe⟩
      case inr =>
        have HOLD := Lib.hid (show old key k = true from old_iff.2 ⟨x, hxk, hxe⟩)
        have HCX := Lib.hid (show cls key k = cls key x from (cls_same hxe).symm)
        clear HA hxe
        have x1 := (IntS.at0 HO.out (j := k) (by rw [HL.out]; exact hlt)).1
        have x2 := (IntS.at0 HO.out (j := k) (by rw [HL.out]; exact hlt)).2
        have HSO := Lib.hid (IntS.set0 HO.out (j := k) (by rw [HL.out]; exact hlt) (cls key x))
        obtain ⟨y0, HY0⟩ : ∃ y, Hid (nth zs k = y) := ⟨_, Lib.hid rfl⟩
        rw [HY0.out] at x1
        have hxn : x < N.ends.length := by omega
        have hxi : (x : Int) < N.ends.length := by omega
        have x3 := (IntS.at0 HO.out (j := x) (by rw [HL.out]; exact hxn)).1
        rw [HZ.out x hxn, if_pos hxk] at x3
        try dsimp only at x3
        obtain ⟨cx, HCXX⟩ : ∃ y, Hid (cls key x = y) := ⟨_, Lib.hid rfl⟩
        rw [HCXX.out] at x3 HSO HCX
        have HMN := Lib.hid (show many key (k + 1) = mk by rw [many_succ, if_pos HOLD.out, HMK.out]; rfl)
        have hx0 : decide ((x : Int) < 0) = false := decide_eq_false (by omega)
        by_cases huk : (u : Int) < k
        case pos =>
          go_wp2_with fail
          go_roundw
          case rel => exact ⟨k + 1, _, by omega, by go_num, by first | (rw [HMN.out]; done) | (rw [HMN.out]; go_num), HSO, Lib.hid (by rw [List.length_set]; exact HL.out), Lib.hid (by have := set_fold HL.out hlt HZ.out; (try dsimp only at this); rw [HCX.out] at this; exact this), by rw [size_setCell]; omega, Lib.hid (HF3.out.grown (grown_set _ ⟨WA.heap.size, k, none⟩ _) fun g hg => .inr (by simp at hg; omega))⟩
          case measure => simp [intOf]; omega
        go_wp2_with fail
        go_roundw
        case rel => exact ⟨k + 1, _, by omega, by go_num, by first | (rw [HMN.out]; done) | (rw [HMN.out]; go_num), HSO, Lib.hid (by rw [List.length_set]; exact HL.out), Lib.hid (by have := set_fold HL.out hlt HZ.out; (try dsimp only at this); rw [HCX.out] at this; exact this), by rw [size_setCell]; omega, Lib.hid (HF3.out.grown (grown_set _ ⟨WA.heap.size, k, none⟩ _) fun g hg => .inr (by simp at hg; omega))⟩
        case measure => simp [intOf]; omega
      by_cases huk : u < k
      case neg =>
        obtain rfl : u = k := by omega
        have HOLD := Lib.hid (show old key u = false from old_false.2 hno)
        have HCN := Lib.hid (cls_new HOLD.out)
        rw [HMK.out] at HCN
        clear HA hno
        have x1 := (IntS.at0 HO.out (j := u) (by rw [HL.out]; exact hlt)).1
        have x2 := (IntS.at0 HO.out (j := u) (by rw [HL.out]; exact hlt)).2
        have HSO := Lib.hid (IntS.set0 HO.out (j := u) (by rw [HL.out]; exact hlt) (mk))
        obtain ⟨y0, HY0⟩ : ∃ y, Hid (nth zs u = y) := ⟨_, Lib.hid rfl⟩
        rw [HY0.out] at x1
        have HMN := Lib.hid (show many key (u + 1) = mk + 1 by rw [many_succ, HOLD.out, HMK.out]; rfl)
        have hmw : IntKind.i64.wrap ((mk : Int) + 1) = ((mk + 1 : Nat) : Int) := by rw [IntWalk.i64_in _ (by omega)]; omega
        go_wp2_with fail
        go_roundw
        case rel => exact ⟨u + 1, _, by omega, by go_num, by first | (rw [HMN.out]; done) | (rw [HMN.out]; go_num), HSO, Lib.hid (by rw [List.length_set]; exact HL.out), Lib.hid (by have := set_fold HL.out hlt HZ.out; (try dsimp only at this); rw [HCN.out] at this; exact this), by rw [size_setCell]; omega, Lib.hid (HF3.out.grown (grown_set _ ⟨WA.heap.size, u, none⟩ _) fun g hg => .inr (by simp at hg; omega))⟩
        case measure => simp [intOf]; omega
      have hun : u < N.ends.length := by omega
      have hui : (u : Int) < k := by omega
      have HNO := Lib.hid hno; clear hno HA
      have kbx1_0 : wp.cell? ⟨w.heap.size, 0, none⟩ = some (.slice A1 N.ends.length c1) := (HF3.out.boxN bx1 (by omega)).cell 0 (by simp)
      have kbx1_1 : wp.cell? ⟨w.heap.size, 1, none⟩ = some (.slice A1' N.ids.length c1') := (HF3.out.boxN bx1 (by omega)).cell 1 (by simp)
      have kbx1_2 : wp.cell? ⟨w.heap.size, 2, none⟩ = some (.slice A1'' N.inputs.length c1'') := (HF3.out.boxN bx1 (by omega)).cell 2 (by simp)
      go_wp2_with fail
      clear kbx1_0 kbx1_1 kbx1_2
      refine (viAlike0_any _ N lo1 hi1 _ u k _ (Net.turned G1.out HF3.out (by omega) (by omega)) (by omega) HG.out rfl hun hlt).mono ?_
      rintro e W4 ⟨rfl, hb4⟩
      have hg4 := grown_below hb4; clear hb4
      have hs4 := hg4.size
      have HF4 := Lib.hid (HF3.out.still hg4); clear HF3
      have O4 := Lib.hid (IntS.still HO.out hg4 (by omega)); clear HO
      cases hal : alikeB N [] u k with
      | true =>
        have HAL := Lib.hid (show key u = key k by unfold alikeB at hal; rw [HKEY.out] at hal; exact of_decide_eq_true hal)
        clear hal
        go_wp2_with fail
        go_roundw
        case rel => exact ⟨u + 1, u, by omega, by go_num, rfl, Lib.hid (.inr ⟨u, huk, rfl, HAL.out⟩), O4, by omega, HF4⟩
        case measure => simp [intOf]; omega
      | false =>
        have HAL := Lib.hid (show ¬ key u = key k by unfold alikeB at hal; rw [HKEY.out] at hal; exact of_decide_eq_false hal)
        clear hal
        go_wp2_with fail
        go_roundw
        case rel =>
          refine ⟨u + 1, -1, by omega, by go_num, rfl, Lib.hid (.inl ⟨rfl, fun x hx => ?_⟩), O4, by omega, HF4⟩
          by_cases e : x = u
          · subst e; exact HAL.out
          · exact HNO.out x (by omega)
        case measure => simp [intOf]; omega

set_option maxHeartbeats 2000000 in
set_option maxRecDepth 100000 in
theorem viStep_any (v1 : Value) (N : NetD) (lo1 hi1 : Nat) (v2 : Value) (c : List Int) (lo2 hi2 : Nat) (w : World) (h1 : Net w lo1 hi1 v1 N) (hh1 : hi1 ≤ w.heap.size) (h2 : IntS w lo2 hi2 v2 c) (hh2 : hi2 ≤ w.heap.size) (hg : N.good = true) (hcl : c.length = N.ends.length) :
    Calls Try.prog 43 #[v1, v2] w fun e w' => ∃ r, e = .returned (r) ∧ IntS w' w.heap.size w'.heap.size r (vstep N c) ∧ Below w.heap.size w w' := by
  have HCL := Lib.hid hcl; clear hcl
  obtain ⟨n1, n40⟩ := good_n hg
  have HG := Lib.hid hg; clear hg
  have hmk := fun W => run_make_row' (P := Try.prog) 23 3 (.int .i64 0) 8 Try.underlying23 Try.info3 rfl .i64 .i64 N.ends.length (by omega) (by omega) W
  have F1 := Lib.hid h1
  obtain ⟨A1, c1, A1', c1', A1'', c1'', rfl, hc1, hd1, _⟩ := h1.parts
  clear h1
  have F2 := Lib.hid h2
  obtain ⟨A2, c2, rfl, hc2, hd2⟩ := h2.dims
  clear h2
  obtain ⟨WA, HWA⟩ : ∃ W, Hid (W = (w.alloc (.cells #[.slice A1 N.ends.length c1, .slice A1' N.ids.length c1', .slice A1'' N.inputs.length c1''] 31))) := ⟨_, Lib.hid rfl⟩
  have hbA : Below w.heap.size w WA := by rw [HWA.out]; exact ((Below.refl _ _).alloc (Nat.le_refl _) _)
  have hsA : w.heap.size + 1 ≤ WA.heap.size := by rw [HWA.out]; simp; try omega
  have bx1 : BoxN WA (w.heap.size) #[.slice A1 N.ends.length c1, .slice A1' N.ids.length c1', .slice A1'' N.inputs.length c1''] 31 := by rw [HWA.out]; exact (BoxN.new' _ _ _ (by simp))
  have G1 := Lib.hid (Net.below F1.out hbA hh1); clear F1
  have G2 := Lib.hid (IntS.below F2.out hbA hh2); clear F2
  go_enter Try.func43, Try.ntmps43
  go_upto_region 1 with (fail)
  rw [← HWA.out]; clear HWA
  obtain ⟨key, HKEY⟩ : ∃ key, Hid (vkey N c = key) := ⟨_, Lib.hid rfl⟩
  have kbx1_0 : WA.cell? ⟨w.heap.size, 0, none⟩ = some (.slice A1 N.ends.length c1) := bx1.cell 0 (by simp)
  have kbx1_1 : WA.cell? ⟨w.heap.size, 1, none⟩ = some (.slice A1' N.ids.length c1') := bx1.cell 1 (by simp)
  have kbx1_2 : WA.cell? ⟨w.heap.size, 2, none⟩ = some (.slice A1'' N.inputs.length c1'') := bx1.cell 2 (by simp)
  go_upto_region 2 with (fail)
  refine nameC ?_
  intro W1 HW1
  have hg1 : WA.grownBy W1 none := by rw [HW1.out]; exact grown_alloc _ _
  have hs1 := hg1.size
  have HF1 := Lib.hid ((Turned.refl WA.heap.size WA.heap.size WA).still hg1)
  have HO := Lib.hid (show IntS W1 WA.heap.size (WA.heap.size + 1) (.slice (some ⟨WA.heap.size, 0, none⟩) N.ends.length N.ends.length) (List.replicate N.ends.length 0) by rw [HW1.out]; exact made_ints _ _ _ rfl (by omega))
  have hz : WA.heap.size + 1 ≤ W1.heap.size := by rw [HW1.out]; simp
  clear HW1 hmk kbx1_0 kbx1_1 kbx1_2
  have kbx1_0 : W1.cell? ⟨w.heap.size, 0, none⟩ = some (.slice A1 N.ends.length c1) := (HF1.out.boxN bx1 (by omega)).cell 0 (by simp)
  have kbx1_1 : W1.cell? ⟨w.heap.size, 1, none⟩ = some (.slice A1' N.ids.length c1') := (HF1.out.boxN bx1 (by omega)).cell 1 (by simp)
  have kbx1_2 : W1.cell? ⟨w.heap.size, 2, none⟩ = some (.slice A1'' N.inputs.length c1'') := (HF1.out.boxN bx1 (by omega)).cell 2 (by simp)
  go_wp2_with fail
  clear kbx1_0 kbx1_1 kbx1_2
  go_loopw [17, 6] (fun i mv wr => ∃ (k : Nat) (zs : List Int), k ≤ N.ends.length ∧ i = .int .i64 k ∧ mv = .int .i64 (many key k : Nat) ∧ Hid (IntS wr WA.heap.size (WA.heap.size + 1) (.slice (some ⟨WA.heap.size, 0, none⟩) N.ends.length N.ends.length) zs) ∧ Hid (zs.length = N.ends.length) ∧ Hid (∀ j, j < N.ends.length → nth zs j = if j < k then (fun j => (cls key j : Int)) j else 0) ∧ WA.heap.size + 1 ≤ wr.heap.size ∧ Hid (Turned WA.heap.size WA.heap.size WA wr)) (fun i mv _ => N.ends.length - (intOf i).toNat)
  case atStart => exact ⟨0, List.replicate N.ends.length 0, Nat.zero_le _, rfl, rfl, HO, Lib.hid (by simp), Lib.hid fun j hj => by rw [nth_replicate _ _ hj]; simp, hz, HF1⟩
  case round =>
    clear HF1
    obtain ⟨k, zs, hk, rfl, rfl, HO, HL, HZ, hz, HF2⟩ := hrel
    have hs2 := HF2.out.size
    by_cases hlt : k < N.ends.length
    case neg =>
      obtain rfl : k = N.ends.length := by omega
      go_wp2_with fail
      go_ret
      refine ⟨_, rfl, ?_, (HF2.out.below_of hbA (by omega) (by omega))⟩
      have e : vstep N c = zs := ext_nth (by rw [vstep_length, HL.out]) fun j hj => by
        rw [vstep_length] at hj
        rw [HZ.out j hj, if_pos hj]
        unfold vstep
        rw [nth_clsL hj, HKEY.out]
      rw [e]
      exact IntS.mono HO.out (by omega) (by omega)
    obtain ⟨wq, rfl⟩ : ∃ wq : World, wq = wr := ⟨_, rfl⟩
    have hki : (k : Int) < N.ends.length := by omega
    have hmle := many_le key k
    obtain ⟨mk, HMK⟩ : ∃ x, Hid (many key k = x) := ⟨_, Lib.hid rfl⟩
    rw [HMK.out] at hmle
    rw [HMK.out]
    go_wp2_with fail
    go_loopw [9, 8] (fun uv av wr => ∃ (u : Nat) (a : Int), u ≤ k ∧ uv = .int .i64 u ∧ av = .int .i64 a ∧ Hid ((a = -1 ∧ ∀ x, x < u → key x ≠ key k) ∨ ∃ x : Nat, x < k ∧ a = x ∧ key x = key k) ∧ Hid (IntS wr WA.heap.size (WA.heap.size + 1) (.slice (some ⟨WA.heap.size, 0, none⟩) N.ends.length N.ends.length) zs) ∧ wq.heap.size ≤ wr.heap.size ∧ Hid (Turned WA.heap.size WA.heap.size WA wr)) (fun uv av _ => k - (intOf uv).toNat)
    case atStart => exact ⟨0, -1, Nat.zero_le _, rfl, rfl, Lib.hid (.inl ⟨rfl, fun x hx => absurd hx (by omega)⟩), HO, Nat.le_refl _, HF2⟩
    case round =>
      clear HF2
      obtain ⟨u, a, hu, rfl, rfl, HA, HO, hz2, HF3⟩ := hrel
      have hs3 := HF3.out.size
      obtain ⟨wp, rfl⟩ : ∃ wp : World, wp = wr := ⟨_, rfl⟩
      rcases HA.out with ⟨rfl, hno⟩ | ⟨x, hxk, rfl, hxe⟩
      case inr =>
        have HOLD := Lib.hid (show old key k = true from old_iff.2 ⟨x, hxk, hxe⟩)
        have HCX := Lib.hid (show cls key k = cls key x from (cls_same hxe).symm)
        clear HA hxe
        have x1 := (IntS.at0 HO.out (j := k) (by rw [HL.out]; exact hlt)).1
        have x2 := (IntS.at0 HO.out (j := k) (by rw [HL.out]; exact hlt)).2
        have HSO := Lib.hid (IntS.set0 HO.out (j := k) (by rw [HL.out]; exact hlt) (cls key x))
        obtain ⟨y0, HY0⟩ : ∃ y, Hid (nth zs k = y) := ⟨_, Lib.hid rfl⟩
        rw [HY0.out] at x1
        have hxn : x < N.ends.length := by omega
        have hxi : (x : Int) < N.ends.length := by omega
        have x3 := (IntS.at0 HO.out (j := x) (by rw [HL.out]; exact hxn)).1
        rw [HZ.out x hxn, if_pos hxk] at x3
        try dsimp only at x3
        obtain ⟨cx, HCXX⟩ : ∃ y, Hid (cls key x = y) := ⟨_, Lib.hid rfl⟩
        rw [HCXX.out] at x3 HSO HCX
        have HMN := Lib.hid (show many key (k + 1) = mk by rw [many_succ, if_pos HOLD.out, HMK.out]; rfl)
        have hx0 : decide ((x : Int) < 0) = false := decide_eq_false (by omega)
        by_cases huk : (u : Int) < k
        case pos =>
          go_wp2_with fail
          go_roundw
          case rel => exact ⟨k + 1, _, by omega, by go_num, by first | (rw [HMN.out]; done) | (rw [HMN.out]; go_num), HSO, Lib.hid (by rw [List.length_set]; exact HL.out), Lib.hid (by have := set_fold HL.out hlt HZ.out; (try dsimp only at this); rw [HCX.out] at this; exact this), by rw [size_setCell]; omega, Lib.hid (HF3.out.grown (grown_set _ ⟨WA.heap.size, k, none⟩ _) fun g hg => .inr (by simp at hg; omega))⟩
          case measure => simp [intOf]; omega
        go_wp2_with fail
        go_roundw
        case rel => exact ⟨k + 1, _, by omega, by go_num, by first | (rw [HMN.out]; done) | (rw [HMN.out]; go_num), HSO, Lib.hid (by rw [List.length_set]; exact HL.out), Lib.hid (by have := set_fold HL.out hlt HZ.out; (try dsimp only at this); rw [HCX.out] at this; exact this), by rw [size_setCell]; omega, Lib.hid (HF3.out.grown (grown_set _ ⟨WA.heap.size, k, none⟩ _) fun g hg => .inr (by simp at hg; omega))⟩
        case measure => simp [intOf]; omega
      by_cases huk : u < k
      case neg =>
        obtain rfl : u = k := by omega
        have HOLD := Lib.hid (show old key u = false from old_false.2 hno)
        have HCN := Lib.hid (cls_new HOLD.out)
        rw [HMK.out] at HCN
        clear HA hno
        have x1 := (IntS.at0 HO.out (j := u) (by rw [HL.out]; exact hlt)).1
        have x2 := (IntS.at0 HO.out (j := u) (by rw [HL.out]; exact hlt)).2
        have HSO := Lib.hid (IntS.set0 HO.out (j := u) (by rw [HL.out]; exact hlt) (mk))
        obtain ⟨y0, HY0⟩ : ∃ y, Hid (nth zs u = y) := ⟨_, Lib.hid rfl⟩
        rw [HY0.out] at x1
        have HMN := Lib.hid (show many key (u + 1) = mk + 1 by rw [many_succ, HOLD.out, HMK.out]; rfl)
        have hmw : IntKind.i64.wrap ((mk : Int) + 1) = ((mk + 1 : Nat) : Int) := by rw [IntWalk.i64_in _ (by omega)]; omega
        go_wp2_with fail
        go_roundw
        case rel => exact ⟨u + 1, _, by omega, by go_num, by first | (rw [HMN.out]; done) | (rw [HMN.out]; go_num), HSO, Lib.hid (by rw [List.length_set]; exact HL.out), Lib.hid (by have := set_fold HL.out hlt HZ.out; (try dsimp only at this); rw [HCN.out] at this; exact this), by rw [size_setCell]; omega, Lib.hid (HF3.out.grown (grown_set _ ⟨WA.heap.size, u, none⟩ _) fun g hg => .inr (by simp at hg; omega))⟩
        case measure => simp [intOf]; omega
      have hun : u < N.ends.length := by omega
      have hui : (u : Int) < k := by omega
      have HNO := Lib.hid hno; clear hno HA
      have kbx1_0 : wp.cell? ⟨w.heap.size, 0, none⟩ = some (.slice A1 N.ends.length c1) := (HF3.out.boxN bx1 (by omega)).cell 0 (by simp)
      have kbx1_1 : wp.cell? ⟨w.heap.size, 1, none⟩ = some (.slice A1' N.ids.length c1') := (HF3.out.boxN bx1 (by omega)).cell 1 (by simp)
      have kbx1_2 : wp.cell? ⟨w.heap.size, 2, none⟩ = some (.slice A1'' N.inputs.length c1'') := (HF3.out.boxN bx1 (by omega)).cell 2 (by simp)
      go_wp2_with fail
      clear kbx1_0 kbx1_1 kbx1_2
      refine (viAlike_any _ N lo1 hi1 _ c lo2 hi2 u k _ (Net.turned G1.out HF3.out (by omega) (by omega)) (by omega) (IntS.turned G2.out HF3.out (by omega) (by omega)) (by omega) HG.out HCL.out hun hlt).mono ?_
      rintro e W4 ⟨rfl, hb4⟩
      have hg4 := grown_below hb4; clear hb4
      have hs4 := hg4.size
      have HF4 := Lib.hid (HF3.out.still hg4); clear HF3
      have O4 := Lib.hid (IntS.still HO.out hg4 (by omega)); clear HO
      cases hal : alikeB N c u k with
      | true =>
        have HAL := Lib.hid (show key u = key k by unfold alikeB at hal; rw [HKEY.out] at hal; exact of_decide_eq_true hal)
        clear hal
        go_wp2_with fail
        go_roundw
        case rel => exact ⟨u + 1, u, by omega, by go_num, rfl, Lib.hid (.inr ⟨u, huk, rfl, HAL.out⟩), O4, by omega, HF4⟩
        case measure => simp [intOf]; omega
      | false =>
        have HAL := Lib.hid (show ¬ key u = key k by unfold alikeB at hal; rw [HKEY.out] at hal; exact of_decide_eq_false hal)
        clear hal
        go_wp2_with fail
        go_roundw
        case rel =>
          refine ⟨u + 1, -1, by omega, by go_num, rfl, Lib.hid (.inl ⟨rfl, fun x hx => ?_⟩), O4, by omega, HF4⟩
          by_cases e : x = u
          · subst e; exact HAL.out
          · exact HNO.out x (by omega)
        case measure => simp [intOf]; omega

set_option maxHeartbeats 2000000 in
set_option maxRecDepth 100000 in
theorem viClasses_any (v1 : Value) (N : NetD) (lo1 hi1 : Nat) (d : Nat) (w : World) (h1 : Net w lo1 hi1 v1 N) (hh1 : hi1 ≤ w.heap.size) (hg : N.good = true) (hd : d ≤ 1000) :
    Calls Try.prog 29 #[v1, .int .i64 (d : Nat)] w fun e w' => ∃ r, e = .returned (r) ∧ IntS w' w.heap.size w'.heap.size r (vat N d) ∧ Below w.heap.size w w' := by
  obtain ⟨n1, n40⟩ := good_n hg
  have HG := Lib.hid hg; clear hg
  have F1 := Lib.hid h1
  obtain ⟨A1, c1, A1', c1', A1'', c1'', rfl, hc1, hd1, _⟩ := h1.parts
  clear h1
  obtain ⟨WA, HWA⟩ : ∃ W, Hid (W = (w.alloc (.cells #[.slice A1 N.ends.length c1, .slice A1' N.ids.length c1', .slice A1'' N.inputs.length c1''] 31))) := ⟨_, Lib.hid rfl⟩
  have hbA : Below w.heap.size w WA := by rw [HWA.out]; exact ((Below.refl _ _).alloc (Nat.le_refl _) _)
  have hsA : w.heap.size + 1 ≤ WA.heap.size := by rw [HWA.out]; simp; try omega
  have bx1 : BoxN WA (w.heap.size) #[.slice A1 N.ends.length c1, .slice A1' N.ids.length c1', .slice A1'' N.inputs.length c1''] 31 := by rw [HWA.out]; exact (BoxN.new' _ _ _ (by simp))
  have G1 := Lib.hid (Net.below F1.out hbA hh1); clear F1
  go_enter Try.func29, Try.ntmps29
  go_upto_region 1 with (fail)
  rw [← HWA.out]; clear HWA
  have kbx1_0 : WA.cell? ⟨w.heap.size, 0, none⟩ = some (.slice A1 N.ends.length c1) := bx1.cell 0 (by simp)
  have kbx1_1 : WA.cell? ⟨w.heap.size, 1, none⟩ = some (.slice A1' N.ids.length c1') := bx1.cell 1 (by simp)
  have kbx1_2 : WA.cell? ⟨w.heap.size, 2, none⟩ = some (.slice A1'' N.inputs.length c1'') := bx1.cell 2 (by simp)
  go_wp2_with fail
  clear kbx1_0 kbx1_1 kbx1_2
  refine (viStep0_any _ N lo1 hi1 _ _ G1.out (by omega) HG.out rfl).mono ?_
  rintro e W1 ⟨r, rfl, hr, hb1⟩
  have hg1 := grown_below hb1; clear hb1
  have hs1 := hg1.size
  have HF1 := Lib.hid ((Turned.refl WA.heap.size WA.heap.size WA).still hg1)
  have C1 := Lib.hid hr; clear hr
  go_wp2_with fail
  go_loopw [1, 5] (fun i cv wr => ∃ (k j : Nat), k + j = d ∧ i = .int .i64 j ∧ Hid (IntS wr w.heap.size wr.heap.size cv (vat N k)) ∧ WA.heap.size ≤ wr.heap.size ∧ Hid (Turned WA.heap.size WA.heap.size WA wr)) (fun i cv _ => (intOf i).toNat)
  case atStart => exact ⟨0, d, by omega, rfl, Lib.hid (IntS.mono C1.out (by omega) (Nat.le_refl _)), by omega, HF1⟩
  case round =>
    clear HF1
    obtain ⟨k, j, hkj, rfl, HC, hz, HF2⟩ := hrel
    have hs2 := HF2.out.size
    obtain ⟨wq, rfl⟩ : ∃ wq : World, wq = wr := ⟨_, rfl⟩
    have hlT := vat_length N k
    obtain ⟨dt, HDT⟩ : ∃ c, Hid (vat N (k + 1) = c) := ⟨_, Lib.hid rfl⟩
    obtain ⟨ct, HCT⟩ : ∃ c, Hid (vat N k = c) := ⟨_, Lib.hid rfl⟩
    have HNX := Lib.hid (show vstep N ct = dt by rw [← HDT.out, ← HCT.out]; rfl)
    rw [HCT.out] at HC hlT
    have HLT := Lib.hid hlT; clear hlT
    obtain ⟨Ac, cc, rfl, hcc, hdc⟩ := HC.out.dims
    by_cases hj : j = 0
    case pos =>
      subst hj
      obtain rfl : k = d := by omega
      go_wp2_with fail
      go_ret
      exact ⟨_, rfl, by rw [HCT.out]; exact HC.out, (HF2.out.below_of hbA (by omega) (by omega))⟩
    obtain ⟨j', rfl⟩ : ∃ j', j = j' + 1 := ⟨j - 1, by omega⟩
    have hj0 : (0 : Int) < ((j' + 1 : Nat) : Int) := by omega
    have hjw : IntKind.i64.wrap (((j' + 1 : Nat) : Int) - 1) = (j' : Int) := by rw [IntWalk.i64_in _ (by omega)]; omega
    obtain ⟨ji, HJI⟩ : ∃ x : Int, Hid (((j' + 1 : Nat) : Int) = x) := ⟨_, Lib.hid rfl⟩
    rw [HJI.out] at hj0 hjw
    rw [HJI.out]
    clear hj
    have kbx1_0 : wq.cell? ⟨w.heap.size, 0, none⟩ = some (.slice A1 N.ends.length c1) := (HF2.out.boxN bx1 (by omega)).cell 0 (by simp)
    have kbx1_1 : wq.cell? ⟨w.heap.size, 1, none⟩ = some (.slice A1' N.ids.length c1') := (HF2.out.boxN bx1 (by omega)).cell 1 (by simp)
    have kbx1_2 : wq.cell? ⟨w.heap.size, 2, none⟩ = some (.slice A1'' N.inputs.length c1'') := (HF2.out.boxN bx1 (by omega)).cell 2 (by simp)
    go_wp2_with fail
    clear kbx1_0 kbx1_1 kbx1_2
    refine (viStep_any _ N lo1 hi1 _ ct _ _ _ (Net.turned G1.out HF2.out (by omega) (by omega)) (by omega) HC.out (Nat.le_refl _) HG.out HLT.out).mono ?_
    rintro e W3 ⟨r, rfl, hr, hb3⟩
    have hg3 := grown_below hb3; clear hb3
    have hs3 := hg3.size
    have HF3 := Lib.hid (HF2.out.still hg3); clear HF2
    have C3 := Lib.hid (IntS.still HC.out hg3 (by omega)); clear HC
    have D3 := Lib.hid hr; clear hr
    rw [HNX.out] at D3
    go_wp2_with fail
    go_roundw
    case rel => exact ⟨k + 1, j', by omega, by first | rfl | go_num, Lib.hid (by rw [HDT.out]; exact IntS.mono D3.out (by omega) (Nat.le_refl _)), by omega, HF3⟩
    case measure => rw [← HJI.out]; simp [intOf] <;> omega

set_option maxHeartbeats 1000000 in
set_option maxRecDepth 100000 in
theorem viMany_any (v1 : Value) (l : List Int) (lo1 hi1 : Nat) (w : World) (h1 : IntS w lo1 hi1 v1 l) (hh1 : hi1 ≤ w.heap.size) (hz : l.length ≤ 1048576) (hb : ∀ x ∈ l, 0 ≤ x ∧ x ≤ 1048576) :
    Calls Try.prog 13 #[v1] w fun e w' => e = .returned (.int .i64 (cnt1 l)) ∧ Below w.heap.size w w' := by
  have HB := Lib.hid hb; clear hb
  have F1 := Lib.hid h1
  obtain ⟨A1, c1, rfl, hc1, hd1⟩ := h1.dims
  clear h1
  go_enter Try.func13, Try.ntmps13
  go_wp2_with fail
  go_loopw [8, 3] (fun i m wr => ∃ (k : Nat) (x : Int), k ≤ l.length ∧ i = .int .i64 k ∧ m = .int .i64 x ∧ Hid (x = cnt1 (l.take k)) ∧ Hid (Turned w.heap.size w.heap.size w wr)) (fun i m _ => l.length - (intOf i).toNat)
  case atStart => exact ⟨0, 0, Nat.zero_le _, rfl, rfl, Lib.hid rfl, Lib.hid (Turned.refl w.heap.size w.heap.size w)⟩
  case round =>
    obtain ⟨k, x, hk, rfl, rfl, HX, HF1⟩ := hrel
    have hs1 := HF1.out.size
    by_cases hlt : k < l.length
    case neg =>
      obtain rfl : k = l.length := by omega
      go_wp2_with fail
      go_ret
      exact ⟨ret_int (by rw [HX.out, List.take_length]), (HF1.out.below_of (Below.refl _ _) (by omega) (by omega))⟩
    have hki : (k : Int) < l.length := by omega
    obtain ⟨be, oe, rfl, _, hbe', xe, _⟩ := (IntS.turned F1.out HF1.out (by omega) (by omega)).opened hlt
    have HST := Lib.hid (show cnt1 (l.take (k + 1)) = if nth l k + 1 < x then x else nth l k + 1 by
      unfold cnt1 at *
      rw [List.take_succ_eq_append_getElem hlt, List.foldl_append, ← nth_eq hlt]
      have e : x = List.foldl (fun a x => max a (x + 1)) 0 (List.take k l) := HX.out
      rw [← e]
      show max x (nth l k + 1) = _
      split <;> omega)
    have hy := HB.out _ (nth_mem hlt)
    obtain ⟨y, HY⟩ : ∃ y, Hid (nth l k = y) := ⟨_, Lib.hid rfl⟩
    rw [HY.out] at xe HST hy
    have hyw : IntKind.i64.wrap (y + 1) = y + 1 := IntWalk.i64_in _ (by omega)
    go_wp2_with (go_at_call 28; refine (l1Most_any _ _ _).mono ?_; rintro e w' ⟨rfl, rfl⟩; rw [← HST.out])
    go_roundw
    case rel => exact ⟨k + 1, _, by omega, by go_num, rfl, Lib.hid rfl, HF1⟩
    case measure => simp [intOf]; omega

end Go.Proofs.Ytjgmmmcmoaaiaaa
