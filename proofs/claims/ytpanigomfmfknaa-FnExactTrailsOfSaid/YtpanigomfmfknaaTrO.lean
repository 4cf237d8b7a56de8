/-
  Contracts: TrailsOf (program and reference).
-/
import Derived.Test.YtpanigomfmfknaaTs3
import Derived.Test.YtpanigomfmfknaaEdge2
namespace Go.Proofs.Ytpanigomfmfknaa
open Go.ChangeShapes Go.WideShapes Go.ChangeAt Go.RowKit
set_option linter.unusedVariables false

noncomputable def tfOut (N : NetD) : List (List Int) := if N.stubless = true then (trails N).map numsP else []
theorem sumL_bound {xss : List (List Int)} {c : Nat} (h : ∀ l ∈ xss, l.length ≤ c) : ∀ k, k ≤ xss.length → sumL xss k ≤ c * k
  | 0, _ => by rw [sumL_zero]; exact Nat.zero_le _
  | k + 1, hk => by
    have h1 := sumL_bound h k (by omega)
    have h2 := h _ (nthL_mem (show k < xss.length by omega))
    rw [sumL_succ xss k (by omega), Nat.mul_succ]
    omega
theorem tfOut_cnt (N : NetD) : cntSS (tfOut N) ≤ 115200 := by
  unfold tfOut
  split
  · rename_i h
    have hg := stubless_good h
    have h1 : ∀ l ∈ (trails N).map numsP, l.length ≤ 480 := fun l hl => by
      obtain ⟨q, hq, rfl⟩ := List.mem_map.1 hl
      obtain ⟨s, _, hc⟩ := trails_ch hg hq
      have := hc.len hg
      rw [numsP_length]; omega
    have h2 := sumL_bound h1 _ (Nat.le_refl _)
    have h3 := trails_len hg
    unfold cntSS
    rw [List.length_map] at h2 ⊢
    have : 480 * (trails N).length ≤ 480 * 240 := Nat.mul_le_mul_left _ h3
    omega
  · show 0 ≤ _; omega

set_option maxHeartbeats 4000000 in
set_option maxRecDepth 100000 in
theorem TrailsOf_impl (v1 : Value) (N : NetD) (lo1 hi1 : Nat) (w : World) (h1 : Net w lo1 hi1 v1 N) (hh1 : hi1 ≤ w.heap.size) (hz1 : N.sz ≤ 1048576) (ok1 : N.Ok) :
    Calls Try.prog 7 #[v1] w fun e w' => ∃ r, e = .returned (.tuple #[r, .bool N.stubless]) ∧ IntSSx w' w.heap.size w'.heap.size r (tfOut N) ∧ Below w.heap.size w w' := by
  clear ok1
  have F1 := Lib.hid h1
  obtain ⟨A1, c1, A1', c1', A1'', c1'', rfl, hc1, hd1, _⟩ := h1.parts
  clear h1
  obtain ⟨WA, HWA⟩ : ∃ W, Hid (W = (w.alloc (.cells #[.slice A1 N.ends.length c1, .slice A1' N.ids.length c1', .slice A1'' N.inputs.length c1''] 32))) := ⟨_, Lib.hid rfl⟩
  have hbA : Below w.heap.size w WA := by rw [HWA.out]; exact ((Below.refl _ _).alloc (Nat.le_refl _) _)
  have hsA : w.heap.size + 1 ≤ WA.heap.size := by rw [HWA.out]; simp; try omega
  have bx1 : BoxN WA (w.heap.size) #[.slice A1 N.ends.length c1, .slice A1' N.ids.length c1', .slice A1'' N.inputs.length c1''] 32 := by rw [HWA.out]; exact (BoxN.new' _ _ _ (by simp))
  have G1 := Lib.hid (Net.below F1.out hbA hh1); clear F1
  go_enter Try.func7, Try.ntmps7
  go_upto_region 1 with (fail)
  rw [← HWA.out]; clear HWA
  have kbx1_0 : WA.cell? ⟨w.heap.size, 0, none⟩ = some (.slice A1 N.ends.length c1) := bx1.cell 0 (by simp)
  have kbx1_1 : WA.cell? ⟨w.heap.size, 1, none⟩ = some (.slice A1' N.ids.length c1') := bx1.cell 1 (by simp)
  have kbx1_2 : WA.cell? ⟨w.heap.size, 2, none⟩ = some (.slice A1'' N.inputs.length c1'') := bx1.cell 2 (by simp)
  go_wp2_with fail
  clear kbx1_0 kbx1_1 kbx1_2
  refine (stubless_any _ N lo1 hi1 _ G1.out (by omega) hz1).mono ?_
  rintro e W1 ⟨rfl, hb1⟩
  have hg1 := grown_below hb1; clear hb1
  have hs1 := hg1.size
  have HF1 := Lib.hid ((Turned.refl WA.heap.size WA.heap.size WA).still hg1)
  by_cases hst : N.stubless = true
  case neg =>
    have hst' : N.stubless = false := by simpa using hst
    rw [hst']
    have HST := Lib.hid hst'; clear hst hst'
    go_wp2_with fail
    go_ret2
    exact ⟨_, ret_vb HST.out.symm, by unfold tfOut; rw [HST.out, if_neg (by simp)]; exact SSx.nil _ _ _, (HF1.out.below_of hbA (by omega) (by omega))⟩
  rw [hst]
  have HST := Lib.hid hst; clear hst
  have HG := Lib.hid (stubless_good HST.out)
  have kbx1_0 : W1.cell? ⟨w.heap.size, 0, none⟩ = some (.slice A1 N.ends.length c1) := (HF1.out.boxN bx1 (by omega)).cell 0 (by simp)
  have kbx1_1 : W1.cell? ⟨w.heap.size, 1, none⟩ = some (.slice A1' N.ids.length c1') := (HF1.out.boxN bx1 (by omega)).cell 1 (by simp)
  have kbx1_2 : W1.cell? ⟨w.heap.size, 2, none⟩ = some (.slice A1'' N.inputs.length c1'') := (HF1.out.boxN bx1 (by omega)).cell 2 (by simp)
  go_wp2_with fail
  clear kbx1_0 kbx1_1 kbx1_2
  refine (trails_any _ N lo1 hi1 _ (Net.turned G1.out HF1.out (by omega) (by omega)) (by omega) HG.out).mono ?_
  rintro e W2 ⟨r, rfl, hr, hb2⟩
  have hg2 := grown_below hb2; clear hb2
  have hs2 := hg2.size
  have HF2 := Lib.hid (HF1.out.still hg2); clear HF1
  have TT2 := Lib.hid hr; clear hr
  have N_2 := Lib.hid (Net.turned G1.out HF2.out (by omega) (by omega)); clear G1
  have bx1_2 := HF2.out.boxN bx1 (by omega); clear bx1
  have hbA2 := (HF2.out.below_of hbA (by omega) (by omega)); clear hbA HF2
  obtain ⟨nt, HNT⟩ : ∃ n, Hid ((trails N).length = n) := ⟨_, Lib.hid rfl⟩
  have HNL := Lib.hid (show nt ≤ 240 by rw [← HNT.out]; exact trails_len HG.out)
  obtain ⟨At, ct, hvt, hct, hdt⟩ := SS.dims TT2.out
  rw [List.length_map, HNT.out] at hvt hct
  subst hvt
  go_wp2_with fail
  go_loopw [4, 13] (fun ov iv wr => ∃ (k top : Nat) (L : List (List Int)), k ≤ nt ∧ iv = .int .i64 k ∧ Hid (((trails N).take k).map numsP = L) ∧ Hid (L.length = k) ∧ Hid (OwnSS wr W2.heap.size top 23 ov L) ∧ Hid (Below W2.heap.size W2 wr)) (fun _ iv _ => nt - (intOf iv).toNat)
  case atStart => exact ⟨0, W2.heap.size, [], Nat.zero_le _, rfl, Lib.hid rfl, Lib.hid rfl, Lib.hid (OwnSS.nil _ _ _ _ (Nat.le_refl _) (Nat.le_refl _)), Lib.hid (Below.refl _ _)⟩
  case round =>
    obtain ⟨k, top, L, hk, rfl, HL, HLL, HO, HB⟩ := hrel
    have hs9 := HB.out.size
    by_cases hlt : k < nt
    case neg =>
      obtain rfl : k = nt := by omega
      obtain ⟨Ao, co, hvo, _, _⟩ := HO.out.len
      rw [HLL.out] at hvo
      subst hvo
      go_wp2_with fail
      go_ret2
      refine ⟨_, ret_vb HST.out.symm, ?_, hbA2.trans (HB.out.mono (by omega))⟩
      unfold tfOut
      rw [HST.out, if_pos rfl]
      have e : (trails N).map numsP = L := by rw [← HL.out, ← HNT.out, List.take_length]
      rw [e]
      exact ISSx.mono HO.out.ssx (by omega) (Nat.le_refl _)
    obtain ⟨bt, ot, u, hAt, _, hbt, qt, hu⟩ := SS.opened TT2.out (j := k) (by rw [List.length_map, HNT.out]; exact hlt)
    subst hAt
    replace qt := (HB.out.cell (p := ⟨bt, ot + k, none⟩) (by show bt < _; omega)).trans qt
    obtain ⟨l, HLK⟩ : ∃ l, Hid (nthT (trails N) k = l) := ⟨_, Lib.hid rfl⟩
    have hkl : k < (trails N).length := by rw [HNT.out]; exact hlt
    have hnl : nthL ((trails N).map castL) k = castL l := by rw [← HLK.out]; simp [nthL, nthT, hkl]
    rw [hnl] at hu
    have HLM := Lib.hid (show l.length ≤ 240 by
      rw [← HLK.out]
      obtain ⟨s, _, hc⟩ := trails_ch HG.out (nthT_mem hkl)
      exact hc.len HG.out)
    have HNX := Lib.hid (show ((trails N).take (k + 1)).map numsP = L ++ [numsP l] by rw [List.take_succ_eq_append_getElem hkl, List.map_append, HL.out, ← HLK.out, nthT_eq hkl]; rfl)
    clear hkl hnl
    obtain ⟨z, HZ⟩ : ∃ z, Hid (numsP l = z) := ⟨_, Lib.hid rfl⟩
    rw [HZ.out] at HNX
    obtain ⟨Au, cu, hvu, _, _⟩ := hu.dims
    rw [castL_length] at hvu
    subst hvu
    have HUE := Lib.hid hu; clear hu
    have HCALL := Lib.hid (show Calls Try.prog 21 #[.slice Au l.length cu] wr fun e w' => ∃ r, e = .returned r ∧ IntS w' wr.heap.size w'.heap.size r z ∧ BD wr.heap.size wr w' from by
      have := endNumbers_any _ l _ _ wr (HUE.out.below HB.out (by omega)) (by omega) (by have := HLM.out; omega)
      rw [HZ.out] at this
      exact this)
    have HTOP := Lib.hid HO.out.topLe
    have HLOW := Lib.hid HO.out.lt
    go_wp2_with (first
      | (go_at_call 21; refine HCALL.out.mono ?_; rintro e W7 ⟨r7, rfl, hr7, hb7⟩; have HB7 := Lib.hid hb7.below; have hz7 := hb7.below.size; obtain ⟨A7, c7, hv7, _, _⟩ := hr7.dims; subst hv7; have HR7 := Lib.hid hr7; have HO7 := Lib.hid (HO.out.below hb7.below); clear hr7 hb7 HCALL)
      | (at_builtin; refine append_ss (s := .tmp 17) Try.underlying27 Try.infoRow (by decide) W7 rfl _ rfl HO7.out HR7.out HTOP.out (Nat.le_refl _) (by omega) (fun g e => .inl (HLOW.out g e).2) _ (by simp [Act.eval, go_sem]) (by simp [Act.eval, go_sem]) (by rw [HLL.out]; have := HNL.out; omega) ?_; intro v' W9 ho' hg' hat'; have HO9 := Lib.hid ho'; have HG9 := Lib.hid hg'; clear ho' hg' hat'))
    go_roundw
    case rel =>
      refine ⟨k + 1, W7.heap.size, L ++ [z], by omega, by go_num, HNX, Lib.hid (by rw [List.length_append, HLL.out]; rfl), HO9, Lib.hid ?_⟩
      have hg9 := HG9.out
      exact (HB.out.trans (HB7.out.mono hs9)).trans ⟨hg9.os, hg9.tape, hg9.output, hg9.size, fun q hq => hg9.block q (by omega) (fun e => by have := (HO7.out.lt q e.symm).1; omega)⟩
    case measure => simp [intOf]; omega

set_option maxHeartbeats 4000000 in
set_option maxRecDepth 100000 in
theorem TrailsOf_spec (v1 : Value) (N : NetD) (lo1 hi1 : Nat) (w : World) (h1 : Net w lo1 hi1 v1 N) (hh1 : hi1 ≤ w.heap.size) (hz1 : N.sz ≤ 1048576) (ok1 : N.Ok) :
    Calls Try.prog 5 #[v1] w fun e w' => ∃ r, e = .returned (.tuple #[r, .bool N.stubless]) ∧ IntSSx w' w.heap.size w'.heap.size r (tfOut N) ∧ Below w.heap.size w w' := by
  clear ok1
  have F1 := Lib.hid h1
  obtain ⟨A1, c1, A1', c1', A1'', c1'', rfl, hc1, hd1, _⟩ := h1.parts
  clear h1
  obtain ⟨WA, HWA⟩ : ∃ W, Hid (W = (w.alloc (.cells #[.slice A1 N.ends.length c1, .slice A1' N.ids.length c1', .slice A1'' N.inputs.length c1''] 32))) := ⟨_, Lib.hid rfl⟩
  have hbA : Below w.heap.size w WA := by rw [HWA.out]; exact ((Below.refl _ _).alloc (Nat.le_refl _) _)
  have hsA : w.heap.size + 1 ≤ WA.heap.size := by rw [HWA.out]; simp; try omega
  have bx1 : BoxN WA (w.heap.size) #[.slice A1 N.ends.length c1, .slice A1' N.ids.length c1', .slice A1'' N.inputs.length c1''] 32 := by rw [HWA.out]; exact (BoxN.new' _ _ _ (by simp))
  have G1 := Lib.hid (Net.below F1.out hbA hh1); clear F1
  go_enter Try.func5, Try.ntmps5
  go_upto_region 1 with (fail)
  rw [← HWA.out]; clear HWA
  have kbx1_0 : WA.cell? ⟨w.heap.size, 0, none⟩ = some (.slice A1 N.ends.length c1) := bx1.cell 0 (by simp)
  have kbx1_1 : WA.cell? ⟨w.heap.size, 1, none⟩ = some (.slice A1' N.ids.length c1') := bx1.cell 1 (by simp)
  have kbx1_2 : WA.cell? ⟨w.heap.size, 2, none⟩ = some (.slice A1'' N.inputs.length c1'') := bx1.cell 2 (by simp)
  go_wp2_with fail
  clear kbx1_0 kbx1_1 kbx1_2
  refine (orGood_any _ N lo1 hi1 _ G1.out (by omega) hz1).mono ?_
  rintro e W1 ⟨rfl, hb1⟩
  have hg1 := grown_below hb1; clear hb1
  have hs1 := hg1.size
  have HF1 := Lib.hid ((Turned.refl WA.heap.size WA.heap.size WA).still hg1)
  by_cases hst : N.stubless = true
  case neg =>
    have hst' : N.stubless = false := by simpa using hst
    rw [hst']
    have HST := Lib.hid hst'; clear hst hst'
    go_wp2_with fail
    go_ret2
    exact ⟨_, ret_vb HST.out.symm, by unfold tfOut; rw [HST.out, if_neg (by simp)]; exact SSx.nil _ _ _, (HF1.out.below_of hbA (by omega) (by omega))⟩
  rw [hst]
  have HST := Lib.hid hst; clear hst
  have HG := Lib.hid (stubless_good HST.out)
  have kbx1_0 : W1.cell? ⟨w.heap.size, 0, none⟩ = some (.slice A1 N.ends.length c1) := (HF1.out.boxN bx1 (by omega)).cell 0 (by simp)
  have kbx1_1 : W1.cell? ⟨w.heap.size, 1, none⟩ = some (.slice A1' N.ids.length c1') := (HF1.out.boxN bx1 (by omega)).cell 1 (by simp)
  have kbx1_2 : W1.cell? ⟨w.heap.size, 2, none⟩ = some (.slice A1'' N.inputs.length c1'') := (HF1.out.boxN bx1 (by omega)).cell 2 (by simp)
  go_wp2_with fail
  clear kbx1_0 kbx1_1 kbx1_2
  refine (orTrails_any _ N lo1 hi1 _ (Net.turned G1.out HF1.out (by omega) (by omega)) (by omega) HG.out).mono ?_
  rintro e W2 ⟨r, rfl, hr, hb2⟩
  have hg2 := grown_below hb2; clear hb2
  have hs2 := hg2.size
  have HF2 := Lib.hid (HF1.out.still hg2); clear HF1
  have O2 := Lib.hid hr; clear hr
  obtain ⟨Ao, co, hvo, hco, hdo⟩ := ISSx.dims O2.out
  rw [List.length_map] at hvo
  subst hvo
  go_wp2_with fail
  go_ret2
  refine ⟨_, ret_vb HST.out.symm, ?_, (HF2.out.below_of hbA (by omega) (by omega))⟩
  unfold tfOut
  rw [HST.out, if_pos rfl]
  exact ISSx.mono O2.out (by omega) (by omega)

end Go.Proofs.Ytpanigomfmfknaa
