/-
  Contracts: SplitEdges (program and reference).
-/
import Derived.Test.YtpanigomfmfknaaGreatTs3
import Derived.Test.YtpanigomfmfknaaGreatEdge2
import Derived.Test.YtpanigomfmfknaaGreatSSet2
namespace Go.Proofs.YtpanigomfmfknaaGreat
open Go.ChangeShapes Go.WideShapes Go.ChangeAt Go.RowKit
set_option linter.unusedVariables false

def stepsF (f : List (List Int) → Nat → Po → List (List Int)) (l : List Po) (x : List (List Int)) : Nat → List (List Int)
  | 0 => x
  | j + 1 => f (stepsF f l x j) j (nthP l j)
def allF (f : List (List Int) → Nat → Po → List (List Int)) (ts : List (List Po)) (x : List (List Int)) : Nat → List (List Int)
  | 0 => x
  | k + 1 => stepsF f (nthT ts k) (allF f ts x k) (nthT ts k).length
/-- a step that keeps the shape -/
def KeepS (N : NetD) (f : List (List Int) → Nat → Po → List (List Int)) : Prop := ∀ x j p, Shape N x → okP N p → Shape N (f x j p)
section
variable {N : NetD} {f : List (List Int) → Nat → Po → List (List Int)}
theorem stepsF_shape (hf : KeepS N f) {l : List Po} (hl : ∀ p ∈ l, okP N p) {x : List (List Int)} (hx : Shape N x) : ∀ j, j ≤ l.length → Shape N (stepsF f l x j)
  | 0, _ => hx
  | j + 1, hj => hf _ _ _ (stepsF_shape hf hl hx j (by omega)) (hl _ (nthP_mem hj))
theorem trails_ok (hg : N.good = true) {k : Nat} (hk : k < (trails N).length) : ∀ p ∈ nthT (trails N) k, okP N p := by
  obtain ⟨s, _, hc⟩ := trails_ch hg (nthT_mem hk)
  exact hc.ok
theorem allF_shape (hg : N.good = true) (hf : KeepS N f) : ∀ k, k ≤ (trails N).length → Shape N (allF f (trails N) (zeroP N) k)
  | 0, _ => Shape.zero N
  | k + 1, hk => stepsF_shape hf (trails_ok hg hk) (allF_shape hg hf k (by omega)) _ (Nat.le_refl _)
end
noncomputable def outF (N : NetD) (f : List (List Int) → Nat → Po → List (List Int)) : List (List Int) := if N.stubless = true then allF f (trails N) (zeroP N) (trails N).length else []
theorem outF_cnt {N : NetD} {f : List (List Int) → Nat → Po → List (List Int)} (hf : KeepS N f) : cntSS (outF N f) ≤ N.cnt := by
  unfold outF
  split
  · rename_i h
    rw [(allF_shape (stubless_good h) hf _ (Nat.le_refl _)).cnt]
    unfold NetD.cnt; omega
  · show 0 ≤ _; omega

/-- both ends of the edge at a port get the step's parity -/
def seStep (N : NetD) (x : List (List Int)) (j : Nat) (p : Po) : List (List Int) := setAt (setAt x p.1 p.2 ((j % 2 : Nat) : Int)) (ep N p).1 (ep N p).2 ((j % 2 : Nat) : Int)
theorem seF_keep {N : NetD} (hg : N.good = true) : KeepS N (seStep N) := fun x j p hx hp => (hx.setAt hp.1 _ _).setAt (ep_ok hg hp).1.1 _ _
theorem seOut_cnt (N : NetD) : cntSS (outF N (seStep N)) ≤ N.cnt := by
  by_cases h : N.stubless = true
  · exact outF_cnt (seF_keep (stubless_good h))
  · unfold outF; rw [if_neg h]; show 0 ≤ _; omega

set_option maxHeartbeats 3000000 in
set_option maxRecDepth 100000 in
theorem SplitEdges_impl (v1 : Value) (N : NetD) (lo1 hi1 : Nat) (w : World) (h1 : Net w lo1 hi1 v1 N) (hh1 : hi1 ≤ w.heap.size) (hz1 : N.sz ≤ 1048576) (ok1 : N.Ok) :
    Calls Tryz.prog 15 #[v1] w fun e w' => ∃ r, e = .returned (.tuple #[r, .bool N.stubless]) ∧ IntSSx w' w.heap.size w'.heap.size r (outF N (seStep N)) ∧ Below w.heap.size w w' := by
  clear ok1
  have F1 := Lib.hid h1
  obtain ⟨A1, c1, A1', c1', A1'', c1'', rfl, hc1, hd1, _⟩ := h1.parts
  clear h1
  obtain ⟨WA, HWA⟩ : ∃ W, Hid (W = (w.alloc (.cells #[.slice A1 N.ends.length c1, .slice A1' N.ids.length c1', .slice A1'' N.inputs.length c1''] 32))) := ⟨_, Lib.hid rfl⟩
  have hbA : Below w.heap.size w WA := by rw [HWA.out]; exact ((Below.refl _ _).alloc (Nat.le_refl _) _)
  have hsA : w.heap.size + 1 ≤ WA.heap.size := by rw [HWA.out]; simp; try omega
  have bx1 : BoxN WA (w.heap.size) #[.slice A1 N.ends.length c1, .slice A1' N.ids.length c1', .slice A1'' N.inputs.length c1''] 32 := by rw [HWA.out]; exact (BoxN.new' _ _ _ (by simp))
  have G1 := Lib.hid (Net.below F1.out hbA hh1); clear F1
  go_enter Tryz.func15, Tryz.ntmps15
  go_upto_region 1 with (fail)
  rw [← HWA.out]; clear HWA
  have kbx1_0 : WA.cell? ⟨w.heap.size, 0, none⟩ = some (.slice A1 N.ends.length c1) := bx1.cell 0 (by simp)
  have kbx1_1 : WA.cell? ⟨w.heap.size, 1, none⟩ = some (.slice A1' N.ids.length c1') := bx1.cell 1 (by simp)
  have kbx1_2 : WA.cell? ⟨w.heap.size, 2, none⟩ = some (.slice A1'' N.inputs.length c1'') := bx1.cell 2 (by simp)
  go_wp2_with fail
  clear kbx1_0 kbx1_1 kbx1_2
  refine (stubless_any _ N lo1 hi1 _ G1.out (by omega) hz1).mono ?_
  rintro e W1 ⟨rfl, hb1⟩
  have hg1 := grown_below hb1; clear hb1
  have hs1 := hg1.size
  have HF1 := Lib.hid ((Turned.refl WA.heap.size WA.heap.size WA).still hg1)
  by_cases hst : N.stubless = true
  case neg =>
    have hst' : N.stubless = false := by simpa using hst
    rw [hst']
    have HST := Lib.hid hst'; clear hst hst'
    go_wp2_with fail
    go_ret2
    exact ⟨_, ret_vb HST.out.symm, by unfold outF; rw [HST.out, if_neg (by simp)]; exact SSx.nil _ _ _, (HF1.out.below_of hbA (by omega) (by omega))⟩
  rw [hst]
  have HST := Lib.hid hst; clear hst
  have HG := Lib.hid (stubless_good HST.out)
  obtain ⟨n1, n40⟩ := good_n HG.out
  have kbx1_0 : W1.cell? ⟨w.heap.size, 0, none⟩ = some (.slice A1 N.ends.length c1) := (HF1.out.boxN bx1 (by omega)).cell 0 (by simp)
  have kbx1_1 : W1.cell? ⟨w.heap.size, 1, none⟩ = some (.slice A1' N.ids.length c1') := (HF1.out.boxN bx1 (by omega)).cell 1 (by simp)
  have kbx1_2 : W1.cell? ⟨w.heap.size, 2, none⟩ = some (.slice A1'' N.inputs.length c1'') := (HF1.out.boxN bx1 (by omega)).cell 2 (by simp)
  go_wp2_with fail
  clear kbx1_0 kbx1_1 kbx1_2
  refine (byPorts_any _ N lo1 hi1 _ (Net.turned G1.out HF1.out (by omega) (by omega)) (by omega) HG.out).mono ?_
  rintro e W2 ⟨ro, rfl, hro, hb2⟩
  have hg2 := grown_below hb2; clear hb2
  have hs2 := hg2.size
  have HF2 := Lib.hid (HF1.out.still hg2); clear HF1
  have O2 := Lib.hid hro; clear hro
  obtain ⟨Ao, co, hvo, hco, hdo⟩ := ISSx.dims O2.out
  rw [zeroP_length] at hvo hco
  subst hvo
  have kbx1_0 : W2.cell? ⟨w.heap.size, 0, none⟩ = some (.slice A1 N.ends.length c1) := (HF2.out.boxN bx1 (by omega)).cell 0 (by simp)
  have kbx1_1 : W2.cell? ⟨w.heap.size, 1, none⟩ = some (.slice A1' N.ids.length c1') := (HF2.out.boxN bx1 (by omega)).cell 1 (by simp)
  have kbx1_2 : W2.cell? ⟨w.heap.size, 2, none⟩ = some (.slice A1'' N.inputs.length c1'') := (HF2.out.boxN bx1 (by omega)).cell 2 (by simp)
  go_wp2_with fail
  clear kbx1_0 kbx1_1 kbx1_2
  refine (trails_any _ N lo1 hi1 _ (Net.turned G1.out HF2.out (by omega) (by omega)) (by omega) HG.out).mono ?_
  rintro e W3 ⟨rt, rfl, hrt, hb3⟩
  have hg3 := grown_below hb3; clear hb3
  have hs3 := hg3.size
  have HF3 := Lib.hid (HF2.out.still hg3); clear HF2
  have O3 := Lib.hid (ISSx.still O2.out hg3 (by omega)); clear O2
  have TT3 := Lib.hid hrt; clear hrt
  have N_3 := Lib.hid (Net.turned G1.out HF3.out (by omega) (by omega)); clear G1
  have bx1_3 := HF3.out.boxN bx1 (by omega); clear bx1
  have hbA3 := (HF3.out.below_of hbA (by omega) (by omega)); clear hbA HF3
  obtain ⟨nt, HNT⟩ : ∃ n, Hid ((trails N).length = n) := ⟨_, Lib.hid rfl⟩
  have HNL := Lib.hid (show nt ≤ 240 by rw [← HNT.out]; exact trails_len HG.out)
  have HSS := Lib.hid (TT3.out)
  obtain ⟨At, ct, hvt, hct, hdt⟩ := SS.dims HSS.out
  rw [List.length_map, HNT.out] at hvt hct
  subst hvt
  go_wp2_with fail
  obtain ⟨bN, oN, _, _, hAN, _⟩ := Net.rowAt N_3.out (u := 0) (by omega)
  subst hAN
  go_loopw [18] (fun iv wr => ∃ (k : Nat) (us : List (List Int)), k ≤ nt ∧ iv = .int .i64 k ∧ Hid (allF (seStep N) (trails N) (zeroP N) k = us) ∧ Hid (IntSSx wr W1.heap.size W2.heap.size (.slice Ao N.ends.length co) us) ∧ Hid (Shape N us) ∧ Hid (Turned W1.heap.size W2.heap.size W3 wr)) (fun iv _ => nt - (intOf iv).toNat)
  case atStart => exact ⟨0, zeroP N, Nat.zero_le _, rfl, Lib.hid rfl, O3, Lib.hid (Shape.zero N), Lib.hid (Turned.refl _ _ _)⟩
  case round =>
    clear O3
    obtain ⟨k, us, hk, rfl, HX, HD, HS, HF⟩ := hrel
    have hsk := HF.out.size
    by_cases hlt : k < nt
    case neg =>
      obtain rfl : k = nt := by omega
      go_wp2_with fail
      go_ret2
      refine ⟨_, ret_vb HST.out.symm, ?_, HF.out.below_of hbA3 (by omega) (by omega)⟩
      have e : outF N (seStep N) = us := by unfold outF; rw [HST.out, if_pos rfl, HNT.out]; exact HX.out
      rw [e]
      exact ISSx.mono HD.out (by omega) (by omega)
    obtain ⟨bt, ot, u, hAt, hbt1, hbt, qt, hu⟩ := SS.opened HSS.out (j := k) (by rw [List.length_map, HNT.out]; exact hlt)
    subst hAt
    replace qt := (HF.out.cell (by omega) (by omega)).trans qt
    obtain ⟨l, HLK⟩ : ∃ l, Hid (nthT (trails N) k = l) := ⟨_, Lib.hid rfl⟩
    have hkl : k < (trails N).length := by rw [HNT.out]; exact hlt
    have hnl : nthL ((trails N).map castL) k = castL l := by rw [← HLK.out]; simp [nthL, nthT, hkl]
    rw [hnl] at hu
    have HOKL := Lib.hid (show ∀ p ∈ l, okP N p from by rw [← HLK.out]; exact trails_ok HG.out hkl)
    have HLM := Lib.hid (show l.length ≤ 240 by
      rw [← HLK.out]
      obtain ⟨s, _, hc⟩ := trails_ch HG.out (nthT_mem hkl)
      exact hc.len HG.out)
    have HNX := Lib.hid (show allF (seStep N) (trails N) (zeroP N) (k + 1) = stepsF (seStep N) l us l.length by rw [← HX.out, ← HLK.out]; rfl)
    clear hkl hnl
    have HUE := Lib.hid hu
    have hll := HLM.out
    obtain ⟨Au, cu, hvu, hcu, hdu⟩ := hu.dims
    rw [castL_length] at hvu hcu
    subst hvu
    clear hu
    go_wp2_with fail
    clear qt
    obtain ⟨wo, rfl⟩ : ∃ wo : World, wo = wr := ⟨_, rfl⟩
    go_loopw [24] (fun jv wr => ∃ (j : Nat) (us' : List (List Int)), j ≤ l.length ∧ jv = .int .i64 j ∧ Hid (stepsF (seStep N) l us j = us') ∧ Hid (IntSSx wr W1.heap.size W2.heap.size (.slice Ao N.ends.length co) us') ∧ Hid (Shape N us') ∧ Hid (Turned W1.heap.size W2.heap.size W3 wr)) (fun jv _ => l.length - (intOf jv).toNat)
    case atStart => exact ⟨0, us, Nat.zero_le _, rfl, Lib.hid rfl, HD, HS, HF⟩
    case round =>
      clear HD HS HF hsk
      obtain ⟨j, us', hj, rfl, HX', HD, HS, HF⟩ := hrel
      have hsj := HF.out.size
      by_cases hjl : j < l.length
      case neg =>
        obtain rfl : j = l.length := by omega
        go_wp2_with fail
        go_roundw
        case rel => exact ⟨k + 1, us', by omega, by go_num, Lib.hid (by rw [HNX.out, HX'.out]), HD, HS, HF⟩
        case measure => simp [intOf]; omega
      obtain ⟨⟨pn, pp⟩, HP⟩ : ∃ p, Hid (nthP l j = p) := ⟨_, Lib.hid rfl⟩
      have HPO := Lib.hid (show okP N (pn, pp) by rw [← HP.out]; exact HOKL.out _ (nthP_mem hjl))
      obtain ⟨hpn, hpp⟩ := HPO.out
      dsimp only at hpn hpp
      unfold degAt at hpp
      obtain ⟨tt, tr, HEE, htt, htr, _⟩ := good_end HG.out hpn hpp
      have HEP := Lib.hid (show ep N (pn, pp) = (tt, tr) by unfold ep endAt; dsimp only; rw [HEE]; simp)
      have HEN := Lib.hid HEE; clear HEE
      have hpni : (pn : Int) < N.ends.length := by omega
      have hppi : (pp : Int) < (nthL N.ends pn).length := by omega
      have htti : (tt : Int) < N.ends.length := by omega
      have htri : (tr : Int) < (nthL N.ends tt).length := by omega
      obtain ⟨y, HY⟩ : ∃ y : Int, Hid (((j % 2 : Nat) : Int) = y) := ⟨_, Lib.hid rfl⟩
      have hrem : (j : Int).tmod 2 = y := by rw [← HY.out, Int.tmod_eq_emod_of_nonneg (by omega)]; omega
      have HNX' := Lib.hid (show stepsF (seStep N) l us (j + 1) = setAt (setAt us' pn pp y) tt tr y by rw [stepsF, HX'.out, HP.out]; unfold seStep; rw [HEP.out, HY.out])
      have hjc : j < (castL l).length := by rw [castL_length]; exact hjl
      obtain ⟨bu, ou, hAu, _, hbu, x1, x2⟩ := (EndS.turned HUE.out HF.out (by omega) (by omega)).opened hjc
      subst hAu
      rw [nthE_castL hjl, HP.out] at x1 x2
      dsimp only at x1 x2
      clear hjc
      go_upto_region 10 with (fail)
      refine nameC ?_
      intro W21 HW21
      have hg21 : wr.grownBy W21 none := by rw [HW21.out]; exact grown_alloc _ _
      have hs21 := hg21.size
      have HF21 := Lib.hid (HF.out.still hg21); clear HF
      have DD21 := Lib.hid (ISSx.still HD.out hg21 (by omega)); clear HD
      have BE21 := Lib.hid (show BoxN W21 wr.heap.size #[.int .i64 (pn : Nat), .int .i64 (pp : Nat)] 48 by rw [HW21.out]; exact BoxN.new _ _ _)
      clear HW21 x1 x2
      have hadw0 : wr.heap.size < W21.heap.size := BE21.out.lt
      obtain ⟨AQ, cQ, hbQ, qQ, hcQ, hdQ, hRQ⟩ := Net.rowIn (Net.turned N_3.out HF21.out (by omega) (by omega)) hpn
      obtain ⟨bQ, oQ, hAQ, _, hbQ', eQ, eQ'⟩ := hRQ.opened hpp
      subst hAQ
      rw [HEN.out] at eQ eQ'
      dsimp only at eQ eQ'
      clear hRQ
      skip
      refine wp_region_U (fun w' => w'.cell? ⟨w.heap.size, 0, none⟩ = some (.slice (some ⟨bN, oN, none⟩) N.ends.length c1) ∧ w'.cell? ⟨bN, oN + pn, none⟩ = some (.slice (some ⟨bQ, oQ, none⟩) (nthL N.ends pn).length cQ) ∧ w'.cell? ⟨bQ, oQ + pp * 2, none⟩ = some (.int .i64 (tt : Nat)) ∧ w'.cell? ⟨bQ, oQ + pp * 2 + 1, none⟩ = some (.int .i64 (tr : Nat)) ∧ w'.cell? ⟨wr.heap.size, 0, none⟩ = some (.int .i64 (pn : Nat)) ∧ w'.cell? ⟨wr.heap.size, 1, none⟩ = some (.int .i64 (pp : Nat))) [11] (by kernel_rfl) ?_
      refine nameU ?_
      intro W22 HW22
      have hg22 : W21.grownBy W22 none := by rw [HW22.out]; exact grown_drew _
      have HGV := Lib.hid hg22
      clear HW22
      have hs22 := hg22.size
      have HF22 := Lib.hid (HF21.out.still hg22); clear HF21
      have DD22 := Lib.hid (ISSx.still DD21.out hg22 (by omega)); clear DD21
      have BE22 := Lib.hid (BoxN.still BE21.out hg22); clear BE21
      have hS23 : W22.cell? ⟨w.heap.size, 0, none⟩ = some (.slice (some ⟨bN, oN, none⟩) N.ends.length c1) ∧ W22.cell? ⟨bN, oN + pn, none⟩ = some (.slice (some ⟨bQ, oQ, none⟩) (nthL N.ends pn).length cQ) ∧ W22.cell? ⟨bQ, oQ + pp * 2, none⟩ = some (.int .i64 (tt : Nat)) ∧ W22.cell? ⟨bQ, oQ + pp * 2 + 1, none⟩ = some (.int .i64 (tr : Nat)) ∧ W22.cell? ⟨wr.heap.size, 0, none⟩ = some (.int .i64 (pn : Nat)) ∧ W22.cell? ⟨wr.heap.size, 1, none⟩ = some (.int .i64 (pp : Nat)) := ⟨(HF22.out.boxN bx1_3 (by omega)).cell 0 (by simp), (HGV.out.cell qQ (by simp)), (HGV.out.cell eQ (by simp)), (HGV.out.cell eQ' (by simp)), BE22.out.cell 0 (by simp), BE22.out.cell 1 (by simp)⟩
      refine anyU_take (i := 0) (v := .pointer (some ⟨w.heap.size, 0, none⟩)) rfl (by kernel_rfl) (by kernel_rfl) (by kernel_rfl) (fun _ _ _ h => h) ⟨by rfl, fun w' hS' => (by obtain ⟨s1, s2, s3, s4, s5, s6⟩ := hS'; go_simp)⟩ hS23 ?_
      simp only [List.getElem_toArray, List.getElem_cons_zero, Act.put, List.setIfInBounds_toArray, List.set_cons_zero, List.set_cons_succ]
      refine anyU_take (i := 1) (v := .slice (some ⟨bN, oN, none⟩) N.ends.length c1) rfl (by kernel_rfl) (by kernel_rfl) (by kernel_rfl) (fun _ _ _ h => h) ⟨by rfl, fun w' hS' => (by obtain ⟨s1, s2, s3, s4, s5, s6⟩ := hS'; go_simp)⟩ hS23 ?_
      simp only [List.getElem_toArray, List.getElem_cons_succ, List.getElem_cons_zero, Act.put, List.setIfInBounds_toArray, List.set_cons_zero, List.set_cons_succ]
      refine anyU_take (i := 2) (v := .pointer (some ⟨wr.heap.size, 0, none⟩)) rfl (by kernel_rfl) (by kernel_rfl) (by kernel_rfl) (fun _ _ _ h => h) ⟨by rfl, fun w' hS' => (by obtain ⟨s1, s2, s3, s4, s5, s6⟩ := hS'; go_simp)⟩ hS23 ?_
      simp only [List.getElem_toArray, List.getElem_cons_succ, List.getElem_cons_zero, Act.put, List.setIfInBounds_toArray, List.set_cons_zero, List.set_cons_succ]
      refine anyU_take (i := 3) (v := .int .i64 (pn : Nat)) rfl (by kernel_rfl) (by kernel_rfl) (by kernel_rfl) (fun _ _ _ h => h) ⟨by rfl, fun w' hS' => (by obtain ⟨s1, s2, s3, s4, s5, s6⟩ := hS'; go_simp)⟩ hS23 ?_
      simp only [List.getElem_toArray, List.getElem_cons_succ, List.getElem_cons_zero, Act.put, List.setIfInBounds_toArray, List.set_cons_zero, List.set_cons_succ]
      refine anyU_take (i := 4) (v := .pointer (some ⟨bN, oN + pn, none⟩)) rfl (by kernel_rfl) (by kernel_rfl) (by kernel_rfl) (fun _ _ _ h => h) ⟨by rfl, fun w' hS' => (by obtain ⟨s1, s2, s3, s4, s5, s6⟩ := hS'; simp [go_sem, hpni])⟩ hS23 ?_
      simp only [List.getElem_toArray, List.getElem_cons_succ, List.getElem_cons_zero, Act.put, List.setIfInBounds_toArray, List.set_cons_zero, List.set_cons_succ]
      refine anyU_take (i := 5) (v := .slice (some ⟨bQ, oQ, none⟩) (nthL N.ends pn).length cQ) rfl (by kernel_rfl) (by kernel_rfl) (by kernel_rfl) (fun _ _ _ h => h) ⟨by rfl, fun w' hS' => (by obtain ⟨s1, s2, s3, s4, s5, s6⟩ := hS'; go_simp)⟩ hS23 ?_
      simp only [List.getElem_toArray, List.getElem_cons_succ, List.getElem_cons_zero, Act.put, List.setIfInBounds_toArray, List.set_cons_zero, List.set_cons_succ]
      refine anyU_take (i := 6) (v := .pointer (some ⟨wr.heap.size, 1, none⟩)) rfl (by kernel_rfl) (by kernel_rfl) (by kernel_rfl) (fun _ _ _ h => h) ⟨by rfl, fun w' hS' => (by obtain ⟨s1, s2, s3, s4, s5, s6⟩ := hS'; go_simp)⟩ hS23 ?_
      simp only [List.getElem_toArray, List.getElem_cons_succ, List.getElem_cons_zero, Act.put, List.setIfInBounds_toArray, List.set_cons_zero, List.set_cons_succ]
      refine anyU_take (i := 7) (v := .int .i64 (pp : Nat)) rfl (by kernel_rfl) (by kernel_rfl) (by kernel_rfl) (fun _ _ _ h => h) ⟨by rfl, fun w' hS' => (by obtain ⟨s1, s2, s3, s4, s5, s6⟩ := hS'; go_simp)⟩ hS23 ?_
      simp only [List.getElem_toArray, List.getElem_cons_succ, List.getElem_cons_zero, Act.put, List.setIfInBounds_toArray, List.set_cons_zero, List.set_cons_succ]
      refine anyU_take (i := 8) (v := .pointer (some ⟨bQ, oQ + pp * 2, none⟩)) rfl (by kernel_rfl) (by kernel_rfl) (by kernel_rfl) (fun _ _ _ h => h) ⟨by rfl, fun w' hS' => (by obtain ⟨s1, s2, s3, s4, s5, s6⟩ := hS'; simp [go_sem, hppi])⟩ hS23 ?_
      simp only [List.getElem_toArray, List.getElem_cons_succ, List.getElem_cons_zero, Act.put, List.setIfInBounds_toArray, List.set_cons_zero, List.set_cons_succ]
      refine anyU_take (i := 9) (v := .agg #[.int .i64 (tt : Nat), .int .i64 (tr : Nat)]) rfl (by kernel_rfl) (by kernel_rfl) (by kernel_rfl) (fun _ _ _ h => h) ⟨by rfl, fun w' hS' => (by obtain ⟨s1, s2, s3, s4, s5, s6⟩ := hS'; go_simp)⟩ hS23 ?_
      simp only [List.getElem_toArray, List.getElem_cons_succ, List.getElem_cons_zero, Act.put, List.setIfInBounds_toArray, List.set_cons_zero, List.set_cons_succ]
      refine anyU_ready (rs := [10]) (by kernel_rfl) (by simp) ?_
      refine ReadyU.cons (i := 10) rfl (fun K hK => ?_) ReadyU.nil
      simp only [List.getElem_toArray, List.getElem_cons_succ, List.getElem_cons_zero]
      refine ite_is (by rfl) ?_
      simp [go_sem]
      refine hK.out _ _ ⟨fun _ => let ⟨s1, s2, s3, s4, s5, s6⟩ := hS23; ⟨(grown_alloc _ _).cell s1 (by simp), (grown_alloc _ _).cell s2 (by simp), (grown_alloc _ _).cell s3 (by simp), (grown_alloc _ _).cell s4 (by simp), (grown_alloc _ _).cell s5 (by simp), (grown_alloc _ _).cell s6 (by simp)⟩, ?_⟩
      clear hK K
      try simp only [List.getElem_toArray, List.getElem_cons_succ, List.getElem_cons_zero, Act.put, List.setIfInBounds_toArray, List.set_cons_zero, List.set_cons_succ]
      refine nameU ?_
      intro W24 HW24
      have hg24 : W22.grownBy W24 none := by rw [HW24.out]; exact grown_alloc _ _
      have HG24 := Lib.hid hg24
      have hs24 := hg24.size
      have HF24 := Lib.hid (HF22.out.still hg24); clear HF22
      have DD24 := Lib.hid (ISSx.still DD22.out hg24 (by omega)); clear DD22
      have BE24 := Lib.hid (BoxN.still BE22.out hg24); clear BE22
      have HYB := Lib.hid (show BoxN W24 W22.heap.size #[.int .i64 0, .int .i64 0] 48 by rw [HW24.out]; exact BoxN.new _ _ _)
      clear HW24
      have r0 := HYB.out.cell 0 (by simp)
      have r1 := HYB.out.cell 1 (by simp)
      have f0 := HYB.out.frozen 0
      have f1 := HYB.out.frozen 1
      dsimp at r0 r1
      refine anyU_ready (rs := [11]) (by kernel_rfl) (by simp) ?_
      refine ReadyU.cons (i := 11) rfl (fun K hK => ?_) ReadyU.nil
      simp only [List.getElem_toArray, List.getElem_cons_succ, List.getElem_cons_zero]
      refine ite_is (by rfl) ?_
      simp [go_sem, r0, r1, f0, f1]
      refine hK.out _ _ ⟨fun h => absurd h (by decide), ?_⟩
      clear hK K
      try simp only [List.getElem_toArray, List.getElem_cons_succ, List.getElem_cons_zero, Act.put, List.setIfInBounds_toArray, List.set_cons_zero, List.set_cons_succ]
      refine nameU ?_
      intro W25 HW25
      have hg25 : W24.grownBy W25 (some W22.heap.size) := by rw [HW25.out]; exact grown_set2 _ _ _ _ _ _
      have HBO := Lib.hid (show BoxN W25 W22.heap.size #[.int .i64 (tt : Nat), .int .i64 (tr : Nat)] 48 by rw [HW25.out]; exact (HYB.out.set 0 _).set 1 _)
      clear HW25 r0 r1 f0 f1 HYB hS23
      have hado : W21.heap.size ≤ W22.heap.size := by omega
      have hadw : wr.heap.size < W22.heap.size := by omega
      have hs25 := hg25.size
      have HF25 := Lib.hid (HF24.out.grown hg25 (fun g hg => by cases hg; omega)); clear HF24
      have DD25 := Lib.hid (ISSx.far DD24.out hg25 (by omega) (fun g hg => by cases hg; omega)); clear DD24
      have BE25 := Lib.hid (BoxN.far BE24.out hg25 (fun g hg => by cases hg; omega)); clear BE24
      clear HGV HG24 hg25 qQ eQ eQ'
      refine anyU_done (by kernel_rfl) ?_ _
      go_wp2_with fail
      obtain ⟨bd, od, bA, oA, cA, bB, oB, cB, hA9, p1, p2, p3, p4, p5, p6, xrA, hrA1, hrA2, xrB, hrB1, hrB2, xeA, xfA, xeB, xfB, pset⟩ := ISSx.place2 DD25.out (by omega) (a := pn) (i := pp) (d := tt) (j := tr) (by rw [HS.out.1]; exact hpn) (by rw [HS.out.2 pn hpn]; exact hpp) (by rw [HS.out.1]; exact htt) (by rw [HS.out.2 tt htt]; exact htr)
      subst hA9
      obtain ⟨_, _, bA', oA', cA', _, _, _, hA9, _, _, _, _, _, _, xrA', _, _, xrC', _, _, _, _, _, _, pset2⟩ := ISSx.place2 DD25.out (by omega) (a := pn) (i := pp) (d := pn) (j := pp) (by rw [HS.out.1]; exact hpn) (by rw [HS.out.2 pn hpn]; exact hpp) (by rw [HS.out.1]; exact hpn) (by rw [HS.out.2 pn hpn]; exact hpp)
      injection hA9 with hA9
      injection hA9 with a1 a2
      subst a1; subst a2
      have hs1 := xrA.symm.trans xrA'
      injection hs1 with hs1
      injection hs1 with hs1 _ _
      injection hs1 with hs1
      injection hs1 with a1 a2
      subst a1; subst a2
      have hs2 := xrA.symm.trans xrC'
      obtain ⟨⟨yB, g1⟩, g2, gset⟩ := pset y
      have g3 := (pset2 y).2.1
      rw [← hs2] at g3 xrC'
      rw [HS.out.2 pn hpn] at xrA g3 hrA1
      rw [HS.out.2 tt htt] at xrB g2 hrB1
      have HGSET := Lib.hid gset
      have HG1 := Lib.hid g1; have HG2 := Lib.hid g2; have HG3 := Lib.hid g3
      have hfB : ((W25.setCell ⟨bA, oA + pp, none⟩ (.int .i64 y)).frozen? ⟨bB, oB + tr, none⟩) = false := by rw [World.frozen?_setCell]; exact xfB
      have HFB := Lib.hid hfB
      clear hs2 pset pset2 gset g1 g2 g3 xrA' xrC' hfB
      refine wp_region_U (fun w' => w'.cell? ⟨wr.heap.size, 0, none⟩ = some (.int .i64 (pn : Nat)) ∧ w'.cell? ⟨wr.heap.size, 1, none⟩ = some (.int .i64 (pp : Nat)) ∧ w'.cell? ⟨W22.heap.size, 0, none⟩ = some (.int .i64 (tt : Nat)) ∧ w'.cell? ⟨W22.heap.size, 1, none⟩ = some (.int .i64 (tr : Nat)) ∧ w'.cell? ⟨bd, od + pn, none⟩ = some (.slice (some ⟨bA, oA, none⟩) (nthL N.ends pn).length cA) ∧ w'.cell? ⟨bd, od + tt, none⟩ = some (.slice (some ⟨bB, oB, none⟩) (nthL N.ends tt).length cB)) [20, 21] (by kernel_rfl) ?_
      refine nameU ?_
      intro W26 HW26
      have hg26 : W25.grownBy W26 none := by rw [HW26.out]; exact grown_drew _
      have HGV := Lib.hid hg26
      have hs26 := hg26.size
      have HF26 := Lib.hid (HF25.out.still hg26); clear HF25
      have DD26 := Lib.hid (ISSx.still DD25.out hg26 (by omega)); clear DD25
      have BE26 := Lib.hid (BoxN.still BE25.out hg26); clear BE25
      have BO26 := Lib.hid (BoxN.still HBO.out hg26); clear HBO
      have hS27 : W26.cell? ⟨wr.heap.size, 0, none⟩ = some (.int .i64 (pn : Nat)) ∧ W26.cell? ⟨wr.heap.size, 1, none⟩ = some (.int .i64 (pp : Nat)) ∧ W26.cell? ⟨W22.heap.size, 0, none⟩ = some (.int .i64 (tt : Nat)) ∧ W26.cell? ⟨W22.heap.size, 1, none⟩ = some (.int .i64 (tr : Nat)) ∧ W26.cell? ⟨bd, od + pn, none⟩ = some (.slice (some ⟨bA, oA, none⟩) (nthL N.ends pn).length cA) ∧ W26.cell? ⟨bd, od + tt, none⟩ = some (.slice (some ⟨bB, oB, none⟩) (nthL N.ends tt).length cB) := ⟨BE26.out.cell 0 (by simp), BE26.out.cell 1 (by simp), BO26.out.cell 0 (by simp), BO26.out.cell 1 (by simp), (HGV.out.cell xrA (by simp)), (HGV.out.cell xrB (by simp))⟩
      refine anyU_take (i := 0) (v := .slice (some ⟨bd, od, none⟩) N.ends.length co) rfl (by kernel_rfl) (by kernel_rfl) (by kernel_rfl) (fun _ _ _ h => h) ⟨by rfl, fun w' hS' => (by obtain ⟨s1, s2, s3, s4, s5, s6⟩ := hS'; go_simp)⟩ hS27 ?_
      simp only [List.getElem_toArray, List.getElem_cons_zero, Act.put, List.setIfInBounds_toArray, List.set_cons_zero, List.set_cons_succ]
      refine anyU_take (i := 1) (v := .pointer (some ⟨wr.heap.size, 0, none⟩)) rfl (by kernel_rfl) (by kernel_rfl) (by kernel_rfl) (fun _ _ _ h => h) ⟨by rfl, fun w' hS' => (by obtain ⟨s1, s2, s3, s4, s5, s6⟩ := hS'; go_simp)⟩ hS27 ?_
      simp only [List.getElem_toArray, List.getElem_cons_succ, List.getElem_cons_zero, Act.put, List.setIfInBounds_toArray, List.set_cons_zero, List.set_cons_succ]
      refine anyU_take (i := 2) (v := .int .i64 (pn : Nat)) rfl (by kernel_rfl) (by kernel_rfl) (by kernel_rfl) (fun _ _ _ h => h) ⟨by rfl, fun w' hS' => (by obtain ⟨s1, s2, s3, s4, s5, s6⟩ := hS'; go_simp)⟩ hS27 ?_
      simp only [List.getElem_toArray, List.getElem_cons_succ, List.getElem_cons_zero, Act.put, List.setIfInBounds_toArray, List.set_cons_zero, List.set_cons_succ]
      refine anyU_take (i := 3) (v := .pointer (some ⟨bd, od + pn, none⟩)) rfl (by kernel_rfl) (by kernel_rfl) (by kernel_rfl) (fun _ _ _ h => h) ⟨by rfl, fun w' hS' => (by obtain ⟨s1, s2, s3, s4, s5, s6⟩ := hS'; simp [go_sem, hpni])⟩ hS27 ?_
      simp only [List.getElem_toArray, List.getElem_cons_succ, List.getElem_cons_zero, Act.put, List.setIfInBounds_toArray, List.set_cons_zero, List.set_cons_succ]
      refine anyU_take (i := 4) (v := .slice (some ⟨bA, oA, none⟩) (nthL N.ends pn).length cA) rfl (by kernel_rfl) (by kernel_rfl) (by kernel_rfl) (fun _ _ _ h => h) ⟨by rfl, fun w' hS' => (by obtain ⟨s1, s2, s3, s4, s5, s6⟩ := hS'; go_simp)⟩ hS27 ?_
      simp only [List.getElem_toArray, List.getElem_cons_succ, List.getElem_cons_zero, Act.put, List.setIfInBounds_toArray, List.set_cons_zero, List.set_cons_succ]
      refine anyU_take (i := 5) (v := .pointer (some ⟨wr.heap.size, 1, none⟩)) rfl (by kernel_rfl) (by kernel_rfl) (by kernel_rfl) (fun _ _ _ h => h) ⟨by rfl, fun w' hS' => (by obtain ⟨s1, s2, s3, s4, s5, s6⟩ := hS'; go_simp)⟩ hS27 ?_
      simp only [List.getElem_toArray, List.getElem_cons_succ, List.getElem_cons_zero, Act.put, List.setIfInBounds_toArray, List.set_cons_zero, List.set_cons_succ]
      refine anyU_take (i := 6) (v := .int .i64 (pp : Nat)) rfl (by kernel_rfl) (by kernel_rfl) (by kernel_rfl) (fun _ _ _ h => h) ⟨by rfl, fun w' hS' => (by obtain ⟨s1, s2, s3, s4, s5, s6⟩ := hS'; go_simp)⟩ hS27 ?_
      simp only [List.getElem_toArray, List.getElem_cons_succ, List.getElem_cons_zero, Act.put, List.setIfInBounds_toArray, List.set_cons_zero, List.set_cons_succ]
      refine anyU_take (i := 7) (v := .slice (some ⟨bd, od, none⟩) N.ends.length co) rfl (by kernel_rfl) (by kernel_rfl) (by kernel_rfl) (fun _ _ _ h => h) ⟨by rfl, fun w' hS' => (by obtain ⟨s1, s2, s3, s4, s5, s6⟩ := hS'; go_simp)⟩ hS27 ?_
      simp only [List.getElem_toArray, List.getElem_cons_succ, List.getElem_cons_zero, Act.put, List.setIfInBounds_toArray, List.set_cons_zero, List.set_cons_succ]
      refine anyU_take (i := 8) (v := .pointer (some ⟨W22.heap.size, 0, none⟩)) rfl (by kernel_rfl) (by kernel_rfl) (by kernel_rfl) (fun _ _ _ h => h) ⟨by rfl, fun w' hS' => (by obtain ⟨s1, s2, s3, s4, s5, s6⟩ := hS'; go_simp)⟩ hS27 ?_
      simp only [List.getElem_toArray, List.getElem_cons_succ, List.getElem_cons_zero, Act.put, List.setIfInBounds_toArray, List.set_cons_zero, List.set_cons_succ]
      refine anyU_take (i := 9) (v := .int .i64 (tt : Nat)) rfl (by kernel_rfl) (by kernel_rfl) (by kernel_rfl) (fun _ _ _ h => h) ⟨by rfl, fun w' hS' => (by obtain ⟨s1, s2, s3, s4, s5, s6⟩ := hS'; go_simp)⟩ hS27 ?_
      simp only [List.getElem_toArray, List.getElem_cons_succ, List.getElem_cons_zero, Act.put, List.setIfInBounds_toArray, List.set_cons_zero, List.set_cons_succ]
      refine anyU_take (i := 10) (v := .pointer (some ⟨bd, od + tt, none⟩)) rfl (by kernel_rfl) (by kernel_rfl) (by kernel_rfl) (fun _ _ _ h => h) ⟨by rfl, fun w' hS' => (by obtain ⟨s1, s2, s3, s4, s5, s6⟩ := hS'; simp [go_sem, htti])⟩ hS27 ?_
      simp only [List.getElem_toArray, List.getElem_cons_succ, List.getElem_cons_zero, Act.put, List.setIfInBounds_toArray, List.set_cons_zero, List.set_cons_succ]
      refine anyU_take (i := 11) (v := .slice (some ⟨bB, oB, none⟩) (nthL N.ends tt).length cB) rfl (by kernel_rfl) (by kernel_rfl) (by kernel_rfl) (fun _ _ _ h => h) ⟨by rfl, fun w' hS' => (by obtain ⟨s1, s2, s3, s4, s5, s6⟩ := hS'; go_simp)⟩ hS27 ?_
      simp only [List.getElem_toArray, List.getElem_cons_succ, List.getElem_cons_zero, Act.put, List.setIfInBounds_toArray, List.set_cons_zero, List.set_cons_succ]
      refine anyU_take (i := 12) (v := .pointer (some ⟨W22.heap.size, 1, none⟩)) rfl (by kernel_rfl) (by kernel_rfl) (by kernel_rfl) (fun _ _ _ h => h) ⟨by rfl, fun w' hS' => (by obtain ⟨s1, s2, s3, s4, s5, s6⟩ := hS'; go_simp)⟩ hS27 ?_
      simp only [List.getElem_toArray, List.getElem_cons_succ, List.getElem_cons_zero, Act.put, List.setIfInBounds_toArray, List.set_cons_zero, List.set_cons_succ]
      refine anyU_take (i := 13) (v := .int .i64 (tr : Nat)) rfl (by kernel_rfl) (by kernel_rfl) (by kernel_rfl) (fun _ _ _ h => h) ⟨by rfl, fun w' hS' => (by obtain ⟨s1, s2, s3, s4, s5, s6⟩ := hS'; go_simp)⟩ hS27 ?_
      simp only [List.getElem_toArray, List.getElem_cons_succ, List.getElem_cons_zero, Act.put, List.setIfInBounds_toArray, List.set_cons_zero, List.set_cons_succ]
      refine anyU_take (i := 14) (v := .int .i64 (j : Nat)) rfl (by kernel_rfl) (by kernel_rfl) (by kernel_rfl) (fun _ _ _ h => h) ⟨by rfl, fun w' hS' => (by obtain ⟨s1, s2, s3, s4, s5, s6⟩ := hS'; go_simp)⟩ hS27 ?_
      simp only [List.getElem_toArray, List.getElem_cons_succ, List.getElem_cons_zero, Act.put, List.setIfInBounds_toArray, List.set_cons_zero, List.set_cons_succ]
      refine anyU_take (i := 15) (v := .int .i64 y) rfl (by kernel_rfl) (by kernel_rfl) (by kernel_rfl) (fun _ _ _ h => h) ⟨by rfl, fun w' hS' => (by obtain ⟨s1, s2, s3, s4, s5, s6⟩ := hS'; simp [go_sem, hrem])⟩ hS27 ?_
      simp only [List.getElem_toArray, List.getElem_cons_succ, List.getElem_cons_zero, Act.put, List.setIfInBounds_toArray, List.set_cons_zero, List.set_cons_succ]
      refine anyU_take (i := 16) (v := .int .i64 (j : Nat)) rfl (by kernel_rfl) (by kernel_rfl) (by kernel_rfl) (fun _ _ _ h => h) ⟨by rfl, fun w' hS' => (by obtain ⟨s1, s2, s3, s4, s5, s6⟩ := hS'; go_simp)⟩ hS27 ?_
      simp only [List.getElem_toArray, List.getElem_cons_succ, List.getElem_cons_zero, Act.put, List.setIfInBounds_toArray, List.set_cons_zero, List.set_cons_succ]
      refine anyU_take (i := 17) (v := .int .i64 y) rfl (by kernel_rfl) (by kernel_rfl) (by kernel_rfl) (fun _ _ _ h => h) ⟨by rfl, fun w' hS' => (by obtain ⟨s1, s2, s3, s4, s5, s6⟩ := hS'; simp [go_sem, hrem])⟩ hS27 ?_
      simp only [List.getElem_toArray, List.getElem_cons_succ, List.getElem_cons_zero, Act.put, List.setIfInBounds_toArray, List.set_cons_zero, List.set_cons_succ]
      refine anyU_take (i := 18) (v := .pointer (some ⟨bA, oA + pp, none⟩)) rfl (by kernel_rfl) (by kernel_rfl) (by kernel_rfl) (fun _ _ _ h => h) ⟨by rfl, fun w' hS' => (by obtain ⟨s1, s2, s3, s4, s5, s6⟩ := hS'; simp [go_sem, hppi])⟩ hS27 ?_
      simp only [List.getElem_toArray, List.getElem_cons_succ, List.getElem_cons_zero, Act.put, List.setIfInBounds_toArray, List.set_cons_zero, List.set_cons_succ]
      have z1 := HGV.out.cell xeA (by simp)
      have z2 := (World.frozen?_of_block (a := ⟨bA, oA + pp, none⟩) (HGV.out.block bA (by omega) (by simp))).trans xfA
      refine anyU_ready (rs := [19]) (by kernel_rfl) (by simp) ?_
      refine ReadyU.cons (i := 19) rfl (fun K hK => ?_) ReadyU.nil
      simp only [List.getElem_toArray, List.getElem_cons_succ, List.getElem_cons_zero]
      refine ite_is (by rfl) ?_
      have hS5 : W26.setCell ⟨bA, oA + pp, none⟩ (.int .i64 y) = (W25.setCell ⟨bA, oA + pp, none⟩ (.int .i64 y)).drew := by rw [HW26.out]; rfl
      have z3 : (W26.setCell ⟨bA, oA + pp, none⟩ (.int .i64 y)).cell? ⟨bd, od + pn, none⟩ = some (.slice (some ⟨bA, oA, none⟩) (nthL N.ends pn).length cA) := by rw [hS5]; exact HG3.out
      have z4 : (W26.setCell ⟨bA, oA + pp, none⟩ (.int .i64 y)).cell? ⟨bd, od + tt, none⟩ = some (.slice (some ⟨bB, oB, none⟩) (nthL N.ends tt).length cB) := by rw [hS5]; exact HG2.out
      simp [go_sem, z1, z2]
      refine hK.out _ _ ⟨fun _ => let ⟨s1, s2, s3, s4, _, _⟩ := hS27; ⟨((grown_set _ ⟨bA, oA + pp, none⟩ _).cell s1 (by simp <;> omega)), ((grown_set _ ⟨bA, oA + pp, none⟩ _).cell s2 (by simp <;> omega)), ((grown_set _ ⟨bA, oA + pp, none⟩ _).cell s3 (by simp <;> omega)), ((grown_set _ ⟨bA, oA + pp, none⟩ _).cell s4 (by simp <;> omega)), z3, z4⟩, ?_⟩
      clear hK K z3 z4
      try simp only [List.getElem_toArray, List.getElem_cons_succ, List.getElem_cons_zero, Act.put, List.setIfInBounds_toArray, List.set_cons_zero, List.set_cons_succ]
      refine nameU ?_
      intro W28 HW28
      have hg28 : W26.grownBy W28 (some bA) := by rw [HW28.out]; exact grown_set _ ⟨bA, oA + pp, none⟩ _
      have HE28 := Lib.hid (show W28 = (W25.setCell ⟨bA, oA + pp, none⟩ (.int .i64 y)).drew from HW28.out.trans hS5)
      have z5 : W28.cell? ⟨bB, oB + tr, none⟩ = some (.int .i64 yB) := by rw [HE28.out]; exact HG1.out
      have z6 : W28.frozen? ⟨bB, oB + tr, none⟩ = false := by rw [HE28.out]; exact HFB.out
      clear z1 z2 hS5 hS27 HW28 DD26
      have hs28 := hg28.size
      have HF28 := Lib.hid (HF26.out.grown hg28 (fun g hg => by cases hg; omega)); clear HF26
      have BE28 := Lib.hid (BoxN.far BE26.out hg28 (fun g hg => by cases hg; omega)); clear BE26
      have BO28 := Lib.hid (BoxN.far BO26.out hg28 (fun g hg => by cases hg; omega)); clear BO26
      refine anyU_takeY (i := 20) (v := .pointer (some ⟨bB, oB + tr, none⟩)) rfl (by kernel_rfl) (by kernel_rfl) (by kernel_rfl) (fun _ _ _ h => h) ⟨by rfl, fun w' => (by simp [go_sem, htri])⟩ ?_
      simp only [List.getElem_toArray, List.getElem_cons_succ, List.getElem_cons_zero, Act.put, List.setIfInBounds_toArray, List.set_cons_zero, List.set_cons_succ]
      refine anyU_ready (rs := [21]) (by kernel_rfl) (by simp) ?_
      refine ReadyU.cons (i := 21) rfl (fun K hK => ?_) ReadyU.nil
      simp only [List.getElem_toArray, List.getElem_cons_succ, List.getElem_cons_zero]
      refine ite_is (by rfl) ?_
      simp [go_sem, z5, z6]
      refine hK.out _ _ ⟨fun h => absurd h (by decide), ?_⟩
      clear hK K
      try simp only [List.getElem_toArray, List.getElem_cons_succ, List.getElem_cons_zero, Act.put, List.setIfInBounds_toArray, List.set_cons_zero, List.set_cons_succ]
      refine nameU ?_
      intro W29 HW29
      have hg29 : W28.grownBy W29 (some bB) := by rw [HW29.out]; exact grown_set _ ⟨bB, oB + tr, none⟩ _
      have HDN := Lib.hid (show IntSSx W29 W1.heap.size W2.heap.size (.slice (some ⟨bd, od, none⟩) N.ends.length co) (setAt (setAt us' pn pp y) tt tr y) by rw [HW29.out, HE28.out]; exact HGSET.out)
      clear HW29 z5 z6 HW26
      have hs29 := hg29.size
      have HF29 := Lib.hid (HF28.out.grown hg29 (fun g hg => by cases hg; omega)); clear HF28
      have BE29 := Lib.hid (BoxN.far BE28.out hg29 (fun g hg => by cases hg; omega)); clear BE28
      have BO29 := Lib.hid (BoxN.far BO28.out hg29 (fun g hg => by cases hg; omega)); clear BO28
      refine anyU_done (by kernel_rfl) ?_ _
      go_wp2_with fail
      go_roundw
      case rel => exact ⟨j + 1, _, by omega, by go_num, HNX', HDN, Lib.hid ((HS.out.setAt hpn _ _).setAt htt _ _), HF29⟩
      case measure => simp [intOf]; omega

set_option maxHeartbeats 3000000 in
set_option maxRecDepth 100000 in
theorem SplitEdges_spec (v1 : Value) (N : NetD) (lo1 hi1 : Nat) (w : World) (h1 : Net w lo1 hi1 v1 N) (hh1 : hi1 ≤ w.heap.size) (hz1 : N.sz ≤ 1048576) (ok1 : N.Ok) :
    Calls Tryz.prog 14 #[v1] w fun e w' => ∃ r, e = .returned (.tuple #[r, .bool N.stubless]) ∧ IntSSx w' w.heap.size w'.heap.size r (outF N (seStep N)) ∧ Below w.heap.size w w' := by
  clear ok1
  have F1 := Lib.hid h1
  obtain ⟨A1, c1, A1', c1', A1'', c1'', rfl, hc1, hd1, _⟩ := h1.parts
  clear h1
  obtain ⟨WA, HWA⟩ : ∃ W, Hid (W = (w.alloc (.cells #[.slice A1 N.ends.length c1, .slice A1' N.ids.length c1', .slice A1'' N.inputs.length c1''] 32))) := ⟨_, Lib.hid rfl⟩
  have hbA : Below w.heap.size w WA := by rw [HWA.out]; exact ((Below.refl _ _).alloc (Nat.le_refl _) _)
  have hsA : w.heap.size + 1 ≤ WA.heap.size := by rw [HWA.out]; simp; try omega
  have bx1 : BoxN WA (w.heap.size) #[.slice A1 N.ends.length c1, .slice A1' N.ids.length c1', .slice A1'' N.inputs.length c1''] 32 := by rw [HWA.out]; exact (BoxN.new' _ _ _ (by simp))
  have G1 := Lib.hid (Net.below F1.out hbA hh1); clear F1
  go_enter Tryz.func14, Tryz.ntmps14
  go_upto_region 1 with (fail)
  rw [← HWA.out]; clear HWA
  have kbx1_0 : WA.cell? ⟨w.heap.size, 0, none⟩ = some (.slice A1 N.ends.length c1) := bx1.cell 0 (by simp)
  have kbx1_1 : WA.cell? ⟨w.heap.size, 1, none⟩ = some (.slice A1' N.ids.length c1') := bx1.cell 1 (by simp)
  have kbx1_2 : WA.cell? ⟨w.heap.size, 2, none⟩ = some (.slice A1'' N.inputs.length c1'') := bx1.cell 2 (by simp)
  go_wp2_with fail
  clear kbx1_0 kbx1_1 kbx1_2
  refine (orGood_any _ N lo1 hi1 _ G1.out (by omega) hz1).mono ?_
  rintro e W1 ⟨rfl, hb1⟩
  have hg1 := grown_below hb1; clear hb1
  have hs1 := hg1.size
  have HF1 := Lib.hid ((Turned.refl WA.heap.size WA.heap.size WA).still hg1)
  by_cases hst : N.stubless = true
  case neg =>
    have hst' : N.stubless = false := by simpa using hst
    rw [hst']
    have HST := Lib.hid hst'; clear hst hst'
    go_wp2_with fail
    go_ret2
    exact ⟨_, ret_vb HST.out.symm, by unfold outF; rw [HST.out, if_neg (by simp)]; exact SSx.nil _ _ _, (HF1.out.below_of hbA (by omega) (by omega))⟩
  rw [hst]
  have HST := Lib.hid hst; clear hst
  have HG := Lib.hid (stubless_good HST.out)
  obtain ⟨n1, n40⟩ := good_n HG.out
  have kbx1_0 : W1.cell? ⟨w.heap.size, 0, none⟩ = some (.slice A1 N.ends.length c1) := (HF1.out.boxN bx1 (by omega)).cell 0 (by simp)
  have kbx1_1 : W1.cell? ⟨w.heap.size, 1, none⟩ = some (.slice A1' N.ids.length c1') := (HF1.out.boxN bx1 (by omega)).cell 1 (by simp)
  have kbx1_2 : W1.cell? ⟨w.heap.size, 2, none⟩ = some (.slice A1'' N.inputs.length c1'') := (HF1.out.boxN bx1 (by omega)).cell 2 (by simp)
  go_wp2_with fail
  clear kbx1_0 kbx1_1 kbx1_2
  refine (orZero_any _ N lo1 hi1 _ (Net.turned G1.out HF1.out (by omega) (by omega)) (by omega) HG.out).mono ?_
  rintro e W2 ⟨ro, rfl, hro, hb2⟩
  have hg2 := grown_below hb2; clear hb2
  have hs2 := hg2.size
  have HF2 := Lib.hid (HF1.out.still hg2); clear HF1
  have O2 := Lib.hid hro; clear hro
  obtain ⟨Ao, co, hvo, hco, hdo⟩ := ISSx.dims O2.out
  rw [zeroP_length] at hvo hco
  subst hvo
  have kbx1_0 : W2.cell? ⟨w.heap.size, 0, none⟩ = some (.slice A1 N.ends.length c1) := (HF2.out.boxN bx1 (by omega)).cell 0 (by simp)
  have kbx1_1 : W2.cell? ⟨w.heap.size, 1, none⟩ = some (.slice A1' N.ids.length c1') := (HF2.out.boxN bx1 (by omega)).cell 1 (by simp)
  have kbx1_2 : W2.cell? ⟨w.heap.size, 2, none⟩ = some (.slice A1'' N.inputs.length c1'') := (HF2.out.boxN bx1 (by omega)).cell 2 (by simp)
  go_wp2_with fail
  clear kbx1_0 kbx1_1 kbx1_2
  refine (orTrails_any _ N lo1 hi1 _ (Net.turned G1.out HF2.out (by omega) (by omega)) (by omega) HG.out).mono ?_
  rintro e W3 ⟨rt, rfl, hrt, hb3⟩
  have hg3 := grown_below hb3; clear hb3
  have hs3 := hg3.size
  have HF3 := Lib.hid (HF2.out.still hg3); clear HF2
  have O3 := Lib.hid (ISSx.still O2.out hg3 (by omega)); clear O2
  have TT3 := Lib.hid hrt; clear hrt
  have N_3 := Lib.hid (Net.turned G1.out HF3.out (by omega) (by omega)); clear G1
  have bx1_3 := HF3.out.boxN bx1 (by omega); clear bx1
  have hbA3 := (HF3.out.below_of hbA (by omega) (by omega)); clear hbA HF3
  obtain ⟨nt, HNT⟩ : ∃ n, Hid ((trails N).length = n) := ⟨_, Lib.hid rfl⟩
  have HNL := Lib.hid (show nt ≤ 240 by rw [← HNT.out]; exact trails_len HG.out)
  have HSS := Lib.hid (TT3.out.ss)
  obtain ⟨At, ct, hvt, hct, hdt⟩ := SS.dims HSS.out
  rw [List.length_map, HNT.out] at hvt hct
  subst hvt
  go_wp2_with fail
  obtain ⟨bN, oN, _, _, hAN, _⟩ := Net.rowAt N_3.out (u := 0) (by omega)
  subst hAN
  go_loopw [17] (fun iv wr => ∃ (k : Nat) (us : List (List Int)), k ≤ nt ∧ iv = .int .i64 k ∧ Hid (allF (seStep N) (trails N) (zeroP N) k = us) ∧ Hid (IntSSx wr W1.heap.size W2.heap.size (.slice Ao N.ends.length co) us) ∧ Hid (Shape N us) ∧ Hid (Turned W1.heap.size W2.heap.size W3 wr)) (fun iv _ => nt - (intOf iv).toNat)
  case atStart => exact ⟨0, zeroP N, Nat.zero_le _, rfl, Lib.hid rfl, O3, Lib.hid (Shape.zero N), Lib.hid (Turned.refl _ _ _)⟩
  case round =>
    clear O3
    obtain ⟨k, us, hk, rfl, HX, HD, HS, HF⟩ := hrel
    have hsk := HF.out.size
    by_cases hlt : k < nt
    case neg =>
      obtain rfl : k = nt := by omega
      go_wp2_with fail
      go_ret2
      refine ⟨_, ret_vb HST.out.symm, ?_, HF.out.below_of hbA3 (by omega) (by omega)⟩
      have e : outF N (seStep N) = us := by unfold outF; rw [HST.out, if_pos rfl, HNT.out]; exact HX.out
      rw [e]
      exact ISSx.mono HD.out (by omega) (by omega)
    obtain ⟨bt, ot, u, hAt, hbt1, hbt, qt, hu⟩ := SS.opened HSS.out (j := k) (by rw [List.length_map, HNT.out]; exact hlt)
    subst hAt
    replace qt := (HF.out.cell (by omega) (by omega)).trans qt
    obtain ⟨l, HLK⟩ : ∃ l, Hid (nthT (trails N) k = l) := ⟨_, Lib.hid rfl⟩
    have hkl : k < (trails N).length := by rw [HNT.out]; exact hlt
    have hnl : nthL ((trails N).map numsP) k = numsP l := by rw [← HLK.out]; simp [nthL, nthT, hkl]
    rw [hnl] at hu
    have HOKL := Lib.hid (show ∀ p ∈ l, okP N p from by rw [← HLK.out]; exact trails_ok HG.out hkl)
    have HLM := Lib.hid (show l.length ≤ 240 by
      rw [← HLK.out]
      obtain ⟨s, _, hc⟩ := trails_ch HG.out (nthT_mem hkl)
      exact hc.len HG.out)
    have HNX := Lib.hid (show allF (seStep N) (trails N) (zeroP N) (k + 1) = stepsF (seStep N) l us l.length by rw [← HX.out, ← HLK.out]; rfl)
    clear hkl hnl
    have HUE := Lib.hid hu
    have hll := HLM.out
    obtain ⟨z, HZ⟩ : ∃ z, Hid (numsP l = z) := ⟨_, Lib.hid rfl⟩
    rw [HZ.out] at hu HUE
    have HZL := Lib.hid (show z.length = 2 * l.length by rw [← HZ.out]; exact numsP_length l)
    obtain ⟨Au, cu, hvu, hcu, hdu⟩ := hu.dims
    subst hvu
    clear hu
    go_wp2_with fail
    clear qt
    obtain ⟨wo, rfl⟩ : ∃ wo : World, wo = wr := ⟨_, rfl⟩
    go_loopw [7] (fun jv wr => ∃ (j : Nat) (us' : List (List Int)), j ≤ l.length ∧ jv = .int .i64 ((2 * j : Nat) : Int) ∧ Hid (stepsF (seStep N) l us j = us') ∧ Hid (IntSSx wr W1.heap.size W2.heap.size (.slice Ao N.ends.length co) us') ∧ Hid (Shape N us') ∧ Hid (Turned W1.heap.size W2.heap.size W3 wr)) (fun jv _ => 2 * l.length - (intOf jv).toNat)
    case atStart => exact ⟨0, us, Nat.zero_le _, rfl, Lib.hid rfl, HD, HS, HF⟩
    case round =>
      clear HD HS HF hsk
      obtain ⟨j, us', hj, rfl, HX', HD, HS, HF⟩ := hrel
      have hsj := HF.out.size
      by_cases hjl : j < l.length
      case neg =>
        obtain rfl : j = l.length := by omega
        have hzz : ¬ ((2 * l.length : Nat) : Int) < z.length := by have := HZL.out; omega
        go_wp2_with fail
        go_roundw
        case rel => exact ⟨k + 1, us', by omega, by go_num, Lib.hid (by rw [HNX.out, HX'.out]), HD, HS, HF⟩
        case measure => simp [intOf]; omega
      obtain ⟨⟨pn, pp⟩, HP⟩ : ∃ p, Hid (nthP l j = p) := ⟨_, Lib.hid rfl⟩
      have HPO := Lib.hid (show okP N (pn, pp) by rw [← HP.out]; exact HOKL.out _ (nthP_mem hjl))
      obtain ⟨hpn, hpp⟩ := HPO.out
      dsimp only at hpn hpp
      unfold degAt at hpp
      obtain ⟨tt, tr, HEE, htt, htr, _⟩ := good_end HG.out hpn hpp
      have HEP := Lib.hid (show ep N (pn, pp) = (tt, tr) by unfold ep endAt; dsimp only; rw [HEE]; simp)
      have HEN := Lib.hid HEE; clear HEE
      have hpni : (pn : Int) < N.ends.length := by omega
      have hppi : (pp : Int) < (nthL N.ends pn).length := by omega
      have htti : (tt : Int) < N.ends.length := by omega
      have htri : (tr : Int) < (nthL N.ends tt).length := by omega
      obtain ⟨y, HY⟩ : ∃ y : Int, Hid (((j % 2 : Nat) : Int) = y) := ⟨_, Lib.hid rfl⟩
      have hrem : (j : Int).tmod 2 = y := by rw [← HY.out, Int.tmod_eq_emod_of_nonneg (by omega)]; omega
      have HNX' := Lib.hid (show stepsF (seStep N) l us (j + 1) = setAt (setAt us' pn pp y) tt tr y by rw [stepsF, HX'.out, HP.out]; unfold seStep; rw [HEP.out, HY.out])
      obtain ⟨n9, HN9⟩ : ∃ n9, Hid (2 * j = n9) := ⟨_, Lib.hid rfl⟩
      rw [HN9.out]
      have hquo : (n9 : Int).tdiv 2 = (j : Int) := by have := HN9.out; rw [Int.tdiv_eq_ediv_of_nonneg (by omega)]; omega
      have hwj : IntKind.i64.wrap (j : Int) = (j : Int) := by simp [IntKind.wrap, IntKind.bits, IntKind.signed]; omega
      have hz9 : n9 + 1 < z.length := by have := HN9.out; have := HZL.out; omega
      obtain ⟨y1, y2⟩ := nth_numsP l j hjl
      rw [HZ.out, HN9.out, HP.out] at y1 y2
      dsimp only at y1 y2
      obtain ⟨bu, ou, hAu, _, hbu, x1, _⟩ := (IntS.turned HUE.out HF.out (by omega) (by omega)).opened (j := n9) (by omega)
      subst hAu
      have x2 := ((IntS.turned HUE.out HF.out (by omega) (by omega)).at_ (j := n9 + 1) hz9).1
      rw [y1] at x1
      rw [y2] at x2
      rw [← Nat.add_assoc] at x2
      have HX1 := Lib.hid x1; have HX2 := Lib.hid x2
      have i0 : (n9 : Int) < z.length := by omega
      have i1 : 0 ≤ (n9 : Int) + 1 ∧ (n9 : Int) + 1 < z.length := by omega
      have w1 : IntKind.i64.wrap ((n9 : Int) + 1) = (n9 : Int) + 1 := by simp [IntKind.wrap, IntKind.bits, IntKind.signed]; omega
      clear x1 x2 y1 y2 hz9
      go_wp2_with fail
      obtain ⟨AQ, cQ, hbQ, qQ, hcQ, hdQ, hRQ⟩ := Net.rowIn (Net.turned N_3.out HF.out (by omega) (by omega)) hpn
      obtain ⟨bQ, oQ, hAQ, _, hbQ', eQ, eQ'⟩ := hRQ.opened hpp
      subst hAQ
      rw [HEN.out] at eQ eQ'
      dsimp only at eQ eQ'
      clear hRQ
      skip
      refine wp_region_U (fun w' => w'.cell? ⟨w.heap.size, 0, none⟩ = some (.slice (some ⟨bN, oN, none⟩) N.ends.length c1) ∧ w'.cell? ⟨bN, oN + pn, none⟩ = some (.slice (some ⟨bQ, oQ, none⟩) (nthL N.ends pn).length cQ) ∧ w'.cell? ⟨bQ, oQ + pp * 2, none⟩ = some (.int .i64 (tt : Nat)) ∧ w'.cell? ⟨bQ, oQ + pp * 2 + 1, none⟩ = some (.int .i64 (tr : Nat)) ∧ w'.cell? ⟨bu, ou + n9, none⟩ = some (.int .i64 (pn : Nat)) ∧ w'.cell? ⟨bu, ou + n9 + 1, none⟩ = some (.int .i64 (pp : Nat))) [16] (by kernel_rfl) ?_
      refine nameU ?_
      intro W21 HW21
      have hg21 : wr.grownBy W21 none := by rw [HW21.out]; exact grown_drew _
      have HGV := Lib.hid hg21
      clear HW21
      have hs21 := hg21.size
      have HF21 := Lib.hid (HF.out.still hg21); clear HF
      have DD21 := Lib.hid (ISSx.still HD.out hg21 (by omega)); clear HD
      have hS22 : W21.cell? ⟨w.heap.size, 0, none⟩ = some (.slice (some ⟨bN, oN, none⟩) N.ends.length c1) ∧ W21.cell? ⟨bN, oN + pn, none⟩ = some (.slice (some ⟨bQ, oQ, none⟩) (nthL N.ends pn).length cQ) ∧ W21.cell? ⟨bQ, oQ + pp * 2, none⟩ = some (.int .i64 (tt : Nat)) ∧ W21.cell? ⟨bQ, oQ + pp * 2 + 1, none⟩ = some (.int .i64 (tr : Nat)) ∧ W21.cell? ⟨bu, ou + n9, none⟩ = some (.int .i64 (pn : Nat)) ∧ W21.cell? ⟨bu, ou + n9 + 1, none⟩ = some (.int .i64 (pp : Nat)) := ⟨(HF21.out.boxN bx1_3 (by omega)).cell 0 (by simp), (HGV.out.cell qQ (by simp)), (HGV.out.cell eQ (by simp)), (HGV.out.cell eQ' (by simp)), (HGV.out.cell HX1.out (by simp)), (HGV.out.cell HX2.out (by simp))⟩
      refine anyU_take (i := 0) (v := .pointer (some ⟨w.heap.size, 0, none⟩)) rfl (by kernel_rfl) (by kernel_rfl) (by kernel_rfl) (fun _ _ _ h => h) ⟨by rfl, fun w' hS' => (by obtain ⟨s1, s2, s3, s4, s5, s6⟩ := hS'; go_simp)⟩ hS22 ?_
      simp only [List.getElem_toArray, List.getElem_cons_zero, Act.put, List.setIfInBounds_toArray, List.set_cons_zero, List.set_cons_succ]
      refine anyU_take (i := 1) (v := .slice (some ⟨bN, oN, none⟩) N.ends.length c1) rfl (by kernel_rfl) (by kernel_rfl) (by kernel_rfl) (fun _ _ _ h => h) ⟨by rfl, fun w' hS' => (by obtain ⟨s1, s2, s3, s4, s5, s6⟩ := hS'; go_simp)⟩ hS22 ?_
      simp only [List.getElem_toArray, List.getElem_cons_succ, List.getElem_cons_zero, Act.put, List.setIfInBounds_toArray, List.set_cons_zero, List.set_cons_succ]
      refine anyU_take (i := 2) (v := .slice (some ⟨bu, ou, none⟩) z.length cu) rfl (by kernel_rfl) (by kernel_rfl) (by kernel_rfl) (fun _ _ _ h => h) ⟨by rfl, fun w' hS' => (by obtain ⟨s1, s2, s3, s4, s5, s6⟩ := hS'; go_simp)⟩ hS22 ?_
      simp only [List.getElem_toArray, List.getElem_cons_succ, List.getElem_cons_zero, Act.put, List.setIfInBounds_toArray, List.set_cons_zero, List.set_cons_succ]
      refine anyU_take (i := 3) (v := .int .i64 (n9 : Nat)) rfl (by kernel_rfl) (by kernel_rfl) (by kernel_rfl) (fun _ _ _ h => h) ⟨by rfl, fun w' hS' => (by obtain ⟨s1, s2, s3, s4, s5, s6⟩ := hS'; go_simp)⟩ hS22 ?_
      simp only [List.getElem_toArray, List.getElem_cons_succ, List.getElem_cons_zero, Act.put, List.setIfInBounds_toArray, List.set_cons_zero, List.set_cons_succ]
      refine anyU_take (i := 4) (v := .pointer (some ⟨bu, ou + n9, none⟩)) rfl (by kernel_rfl) (by kernel_rfl) (by kernel_rfl) (fun _ _ _ h => h) ⟨by rfl, fun w' hS' => (by obtain ⟨s1, s2, s3, s4, s5, s6⟩ := hS'; simp [go_sem, i0])⟩ hS22 ?_
      simp only [List.getElem_toArray, List.getElem_cons_succ, List.getElem_cons_zero, Act.put, List.setIfInBounds_toArray, List.set_cons_zero, List.set_cons_succ]
      refine anyU_take (i := 5) (v := .int .i64 (pn : Nat)) rfl (by kernel_rfl) (by kernel_rfl) (by kernel_rfl) (fun _ _ _ h => h) ⟨by rfl, fun w' hS' => (by obtain ⟨s1, s2, s3, s4, s5, s6⟩ := hS'; go_simp)⟩ hS22 ?_
      simp only [List.getElem_toArray, List.getElem_cons_succ, List.getElem_cons_zero, Act.put, List.setIfInBounds_toArray, List.set_cons_zero, List.set_cons_succ]
      refine anyU_take (i := 6) (v := .pointer (some ⟨bN, oN + pn, none⟩)) rfl (by kernel_rfl) (by kernel_rfl) (by kernel_rfl) (fun _ _ _ h => h) ⟨by rfl, fun w' hS' => (by obtain ⟨s1, s2, s3, s4, s5, s6⟩ := hS'; simp [go_sem, hpni])⟩ hS22 ?_
      simp only [List.getElem_toArray, List.getElem_cons_succ, List.getElem_cons_zero, Act.put, List.setIfInBounds_toArray, List.set_cons_zero, List.set_cons_succ]
      refine anyU_take (i := 7) (v := .slice (some ⟨bQ, oQ, none⟩) (nthL N.ends pn).length cQ) rfl (by kernel_rfl) (by kernel_rfl) (by kernel_rfl) (fun _ _ _ h => h) ⟨by rfl, fun w' hS' => (by obtain ⟨s1, s2, s3, s4, s5, s6⟩ := hS'; go_simp)⟩ hS22 ?_
      simp only [List.getElem_toArray, List.getElem_cons_succ, List.getElem_cons_zero, Act.put, List.setIfInBounds_toArray, List.set_cons_zero, List.set_cons_succ]
      refine anyU_take (i := 8) (v := .slice (some ⟨bu, ou, none⟩) z.length cu) rfl (by kernel_rfl) (by kernel_rfl) (by kernel_rfl) (fun _ _ _ h => h) ⟨by rfl, fun w' hS' => (by obtain ⟨s1, s2, s3, s4, s5, s6⟩ := hS'; go_simp)⟩ hS22 ?_
      simp only [List.getElem_toArray, List.getElem_cons_succ, List.getElem_cons_zero, Act.put, List.setIfInBounds_toArray, List.set_cons_zero, List.set_cons_succ]
      refine anyU_take (i := 9) (v := .int .i64 (n9 : Nat)) rfl (by kernel_rfl) (by kernel_rfl) (by kernel_rfl) (fun _ _ _ h => h) ⟨by rfl, fun w' hS' => (by obtain ⟨s1, s2, s3, s4, s5, s6⟩ := hS'; go_simp)⟩ hS22 ?_
      simp only [List.getElem_toArray, List.getElem_cons_succ, List.getElem_cons_zero, Act.put, List.setIfInBounds_toArray, List.set_cons_zero, List.set_cons_succ]
      refine anyU_take (i := 10) (v := .int .i64 ((n9 : Int) + 1)) rfl (by kernel_rfl) (by kernel_rfl) (by kernel_rfl) (fun _ _ _ h => h) ⟨by rfl, fun w' hS' => (by obtain ⟨s1, s2, s3, s4, s5, s6⟩ := hS'; simp [go_sem, w1])⟩ hS22 ?_
      simp only [List.getElem_toArray, List.getElem_cons_succ, List.getElem_cons_zero, Act.put, List.setIfInBounds_toArray, List.set_cons_zero, List.set_cons_succ]
      refine anyU_take (i := 11) (v := .pointer (some ⟨bu, ou + n9 + 1, none⟩)) rfl (by kernel_rfl) (by kernel_rfl) (by kernel_rfl) (fun _ _ _ h => h) ⟨by rfl, fun w' hS' => (by obtain ⟨s1, s2, s3, s4, s5, s6⟩ := hS'; simp [go_sem, i1, Nat.add_assoc])⟩ hS22 ?_
      simp only [List.getElem_toArray, List.getElem_cons_succ, List.getElem_cons_zero, Act.put, List.setIfInBounds_toArray, List.set_cons_zero, List.set_cons_succ]
      refine anyU_take (i := 12) (v := .int .i64 (pp : Nat)) rfl (by kernel_rfl) (by kernel_rfl) (by kernel_rfl) (fun _ _ _ h => h) ⟨by rfl, fun w' hS' => (by obtain ⟨s1, s2, s3, s4, s5, s6⟩ := hS'; go_simp)⟩ hS22 ?_
      simp only [List.getElem_toArray, List.getElem_cons_succ, List.getElem_cons_zero, Act.put, List.setIfInBounds_toArray, List.set_cons_zero, List.set_cons_succ]
      refine anyU_take (i := 13) (v := .pointer (some ⟨bQ, oQ + pp * 2, none⟩)) rfl (by kernel_rfl) (by kernel_rfl) (by kernel_rfl) (fun _ _ _ h => h) ⟨by rfl, fun w' hS' => (by obtain ⟨s1, s2, s3, s4, s5, s6⟩ := hS'; simp [go_sem, hppi])⟩ hS22 ?_
      simp only [List.getElem_toArray, List.getElem_cons_succ, List.getElem_cons_zero, Act.put, List.setIfInBounds_toArray, List.set_cons_zero, List.set_cons_succ]
      refine anyU_take (i := 14) (v := .agg #[.int .i64 (tt : Nat), .int .i64 (tr : Nat)]) rfl (by kernel_rfl) (by kernel_rfl) (by kernel_rfl) (fun _ _ _ h => h) ⟨by rfl, fun w' hS' => (by obtain ⟨s1, s2, s3, s4, s5, s6⟩ := hS'; go_simp)⟩ hS22 ?_
      simp only [List.getElem_toArray, List.getElem_cons_succ, List.getElem_cons_zero, Act.put, List.setIfInBounds_toArray, List.set_cons_zero, List.set_cons_succ]
      refine anyU_ready (rs := [15]) (by kernel_rfl) (by simp) ?_
      refine ReadyU.cons (i := 15) rfl (fun K hK => ?_) ReadyU.nil
      simp only [List.getElem_toArray, List.getElem_cons_succ, List.getElem_cons_zero]
      refine ite_is (by rfl) ?_
      simp [go_sem]
      refine hK.out _ _ ⟨fun _ => let ⟨s1, s2, s3, s4, s5, s6⟩ := hS22; ⟨(grown_alloc _ _).cell s1 (by simp), (grown_alloc _ _).cell s2 (by simp), (grown_alloc _ _).cell s3 (by simp), (grown_alloc _ _).cell s4 (by simp), (grown_alloc _ _).cell s5 (by simp), (grown_alloc _ _).cell s6 (by simp)⟩, ?_⟩
      clear hK K
      try simp only [List.getElem_toArray, List.getElem_cons_succ, List.getElem_cons_zero, Act.put, List.setIfInBounds_toArray, List.set_cons_zero, List.set_cons_succ]
      refine nameU ?_
      intro W23 HW23
      have hg23 : W21.grownBy W23 none := by rw [HW23.out]; exact grown_alloc _ _
      have HG23 := Lib.hid hg23
      have hs23 := hg23.size
      have HF23 := Lib.hid (HF21.out.still hg23); clear HF21
      have DD23 := Lib.hid (ISSx.still DD21.out hg23 (by omega)); clear DD21
      have HYB := Lib.hid (show BoxN W23 W21.heap.size #[.int .i64 0, .int .i64 0] 48 by rw [HW23.out]; exact BoxN.new _ _ _)
      clear HW23
      have r0 := HYB.out.cell 0 (by simp)
      have r1 := HYB.out.cell 1 (by simp)
      have f0 := HYB.out.frozen 0
      have f1 := HYB.out.frozen 1
      dsimp at r0 r1
      refine anyU_ready (rs := [16]) (by kernel_rfl) (by simp) ?_
      refine ReadyU.cons (i := 16) rfl (fun K hK => ?_) ReadyU.nil
      simp only [List.getElem_toArray, List.getElem_cons_succ, List.getElem_cons_zero]
      refine ite_is (by rfl) ?_
      simp [go_sem, r0, r1, f0, f1]
      refine hK.out _ _ ⟨fun h => absurd h (by decide), ?_⟩
      clear hK K
      try simp only [List.getElem_toArray, List.getElem_cons_succ, List.getElem_cons_zero, Act.put, List.setIfInBounds_toArray, List.set_cons_zero, List.set_cons_succ]
      refine nameU ?_
      intro W24 HW24
      have hg24 : W23.grownBy W24 (some W21.heap.size) := by rw [HW24.out]; exact grown_set2 _ _ _ _ _ _
      have HBO := Lib.hid (show BoxN W24 W21.heap.size #[.int .i64 (tt : Nat), .int .i64 (tr : Nat)] 48 by rw [HW24.out]; exact (HYB.out.set 0 _).set 1 _)
      clear HW24 r0 r1 f0 f1 HYB hS22
      have hado : wr.heap.size ≤ W21.heap.size := by omega
      have hs24 := hg24.size
      have HF24 := Lib.hid (HF23.out.grown hg24 (fun g hg => by cases hg; omega)); clear HF23
      have DD24 := Lib.hid (ISSx.far DD23.out hg24 (by omega) (fun g hg => by cases hg; omega)); clear DD23
      have hg9a : wr.grownBy W24 none := ⟨by rw [hg24.os, HG23.out.os, HGV.out.os], by rw [hg24.tape, HG23.out.tape, HGV.out.tape], by rw [hg24.output, HG23.out.output, HGV.out.output], by omega, fun k hk _ => (hg24.block k (by omega) (by intro e; injection e; omega)).trans ((HG23.out.block k (by omega) (by simp)).trans (HGV.out.block k hk (by simp)))⟩
      have hx1 := hg9a.cell HX1.out (by simp)
      have hx2 := hg9a.cell HX2.out (by simp)
      clear hg9a HX1 HX2
      clear HGV HG23 hg24 qQ eQ eQ'
      refine anyU_done (by kernel_rfl) ?_ _
      go_wp2_with fail
      obtain ⟨bd, od, bA, oA, cA, hAA, e1A, e2A, e3A, e4A, xrA, hr1A, hr2A, xeA, xfA, hsetA⟩ := ISSx.place DD24.out (by omega) (show pn < (us').length by rw [HS.out.1]; exact hpn) (show pp < (nthL (us') pn).length by rw [HS.out.2 pn hpn]; exact hpp)
      subst hAA
      rw [HS.out.2 pn hpn] at xrA hr1A
      have HSETA := Lib.hid (hsetA y); clear hsetA
      refine wp_region_U (fun w' => w'.cell? ⟨bu, ou + n9, none⟩ = some (.int .i64 (pn : Nat)) ∧ w'.cell? ⟨bu, ou + n9 + 1, none⟩ = some (.int .i64 (pp : Nat)) ∧ w'.cell? ⟨bd, od + pn, none⟩ = some (.slice (some ⟨bA, oA, none⟩) (nthL N.ends pn).length cA)) [16] (by kernel_rfl) ?_
      refine nameU ?_
      intro W25 HW25
      have hg25 : W24.grownBy W25 none := by rw [HW25.out]; exact grown_drew _
      have HGV := Lib.hid hg25
      have hs25 := hg25.size
      have HF25 := Lib.hid (HF24.out.still hg25); clear HF24
      have DD25 := Lib.hid (ISSx.still DD24.out hg25 (by omega)); clear DD24
      have BO25 := Lib.hid (BoxN.still HBO.out hg25); clear HBO
      have hS26 : W25.cell? ⟨bu, ou + n9, none⟩ = some (.int .i64 (pn : Nat)) ∧ W25.cell? ⟨bu, ou + n9 + 1, none⟩ = some (.int .i64 (pp : Nat)) ∧ W25.cell? ⟨bd, od + pn, none⟩ = some (.slice (some ⟨bA, oA, none⟩) (nthL N.ends pn).length cA) := ⟨(HGV.out.cell hx1 (by simp)), (HGV.out.cell hx2 (by simp)), (HGV.out.cell xrA (by simp))⟩
      refine anyU_take (i := 0) (v := .slice (some ⟨bd, od, none⟩) N.ends.length co) rfl (by kernel_rfl) (by kernel_rfl) (by kernel_rfl) (fun _ _ _ h => h) ⟨by rfl, fun w' hS' => (by obtain ⟨s1, s2, s3⟩ := hS'; go_simp)⟩ hS26 ?_
      simp only [List.getElem_toArray, List.getElem_cons_zero, Act.put, List.setIfInBounds_toArray, List.set_cons_zero, List.set_cons_succ]
      refine anyU_take (i := 1) (v := .slice (some ⟨bu, ou, none⟩) z.length cu) rfl (by kernel_rfl) (by kernel_rfl) (by kernel_rfl) (fun _ _ _ h => h) ⟨by rfl, fun w' hS' => (by obtain ⟨s1, s2, s3⟩ := hS'; go_simp)⟩ hS26 ?_
      simp only [List.getElem_toArray, List.getElem_cons_succ, List.getElem_cons_zero, Act.put, List.setIfInBounds_toArray, List.set_cons_zero, List.set_cons_succ]
      refine anyU_take (i := 2) (v := .int .i64 (n9 : Nat)) rfl (by kernel_rfl) (by kernel_rfl) (by kernel_rfl) (fun _ _ _ h => h) ⟨by rfl, fun w' hS' => (by obtain ⟨s1, s2, s3⟩ := hS'; go_simp)⟩ hS26 ?_
      simp only [List.getElem_toArray, List.getElem_cons_succ, List.getElem_cons_zero, Act.put, List.setIfInBounds_toArray, List.set_cons_zero, List.set_cons_succ]
      refine anyU_take (i := 3) (v := .pointer (some ⟨bu, ou + n9, none⟩)) rfl (by kernel_rfl) (by kernel_rfl) (by kernel_rfl) (fun _ _ _ h => h) ⟨by rfl, fun w' hS' => (by obtain ⟨s1, s2, s3⟩ := hS'; simp [go_sem, i0])⟩ hS26 ?_
      simp only [List.getElem_toArray, List.getElem_cons_succ, List.getElem_cons_zero, Act.put, List.setIfInBounds_toArray, List.set_cons_zero, List.set_cons_succ]
      refine anyU_take (i := 4) (v := .int .i64 (pn : Nat)) rfl (by kernel_rfl) (by kernel_rfl) (by kernel_rfl) (fun _ _ _ h => h) ⟨by rfl, fun w' hS' => (by obtain ⟨s1, s2, s3⟩ := hS'; go_simp)⟩ hS26 ?_
      simp only [List.getElem_toArray, List.getElem_cons_succ, List.getElem_cons_zero, Act.put, List.setIfInBounds_toArray, List.set_cons_zero, List.set_cons_succ]
      refine anyU_take (i := 5) (v := .pointer (some ⟨bd, od + pn, none⟩)) rfl (by kernel_rfl) (by kernel_rfl) (by kernel_rfl) (fun _ _ _ h => h) ⟨by rfl, fun w' hS' => (by obtain ⟨s1, s2, s3⟩ := hS'; simp [go_sem, hpni])⟩ hS26 ?_
      simp only [List.getElem_toArray, List.getElem_cons_succ, List.getElem_cons_zero, Act.put, List.setIfInBounds_toArray, List.set_cons_zero, List.set_cons_succ]
      refine anyU_take (i := 6) (v := .slice (some ⟨bA, oA, none⟩) (nthL N.ends pn).length cA) rfl (by kernel_rfl) (by kernel_rfl) (by kernel_rfl) (fun _ _ _ h => h) ⟨by rfl, fun w' hS' => (by obtain ⟨s1, s2, s3⟩ := hS'; go_simp)⟩ hS26 ?_
      simp only [List.getElem_toArray, List.getElem_cons_succ, List.getElem_cons_zero, Act.put, List.setIfInBounds_toArray, List.set_cons_zero, List.set_cons_succ]
      refine anyU_take (i := 7) (v := .slice (some ⟨bu, ou, none⟩) z.length cu) rfl (by kernel_rfl) (by kernel_rfl) (by kernel_rfl) (fun _ _ _ h => h) ⟨by rfl, fun w' hS' => (by obtain ⟨s1, s2, s3⟩ := hS'; go_simp)⟩ hS26 ?_
      simp only [List.getElem_toArray, List.getElem_cons_succ, List.getElem_cons_zero, Act.put, List.setIfInBounds_toArray, List.set_cons_zero, List.set_cons_succ]
      refine anyU_take (i := 8) (v := .int .i64 (n9 : Nat)) rfl (by kernel_rfl) (by kernel_rfl) (by kernel_rfl) (fun _ _ _ h => h) ⟨by rfl, fun w' hS' => (by obtain ⟨s1, s2, s3⟩ := hS'; go_simp)⟩ hS26 ?_
      simp only [List.getElem_toArray, List.getElem_cons_succ, List.getElem_cons_zero, Act.put, List.setIfInBounds_toArray, List.set_cons_zero, List.set_cons_succ]
      refine anyU_take (i := 9) (v := .int .i64 ((n9 : Int) + 1)) rfl (by kernel_rfl) (by kernel_rfl) (by kernel_rfl) (fun _ _ _ h => h) ⟨by rfl, fun w' hS' => (by obtain ⟨s1, s2, s3⟩ := hS'; simp [go_sem, w1])⟩ hS26 ?_
      simp only [List.getElem_toArray, List.getElem_cons_succ, List.getElem_cons_zero, Act.put, List.setIfInBounds_toArray, List.set_cons_zero, List.set_cons_succ]
      refine anyU_take (i := 10) (v := .pointer (some ⟨bu, ou + n9 + 1, none⟩)) rfl (by kernel_rfl) (by kernel_rfl) (by kernel_rfl) (fun _ _ _ h => h) ⟨by rfl, fun w' hS' => (by obtain ⟨s1, s2, s3⟩ := hS'; simp [go_sem, i1, Nat.add_assoc])⟩ hS26 ?_
      simp only [List.getElem_toArray, List.getElem_cons_succ, List.getElem_cons_zero, Act.put, List.setIfInBounds_toArray, List.set_cons_zero, List.set_cons_succ]
      refine anyU_take (i := 11) (v := .int .i64 (pp : Nat)) rfl (by kernel_rfl) (by kernel_rfl) (by kernel_rfl) (fun _ _ _ h => h) ⟨by rfl, fun w' hS' => (by obtain ⟨s1, s2, s3⟩ := hS'; go_simp)⟩ hS26 ?_
      simp only [List.getElem_toArray, List.getElem_cons_succ, List.getElem_cons_zero, Act.put, List.setIfInBounds_toArray, List.set_cons_zero, List.set_cons_succ]
      refine anyU_take (i := 12) (v := .int .i64 (n9 : Nat)) rfl (by kernel_rfl) (by kernel_rfl) (by kernel_rfl) (fun _ _ _ h => h) ⟨by rfl, fun w' hS' => (by obtain ⟨s1, s2, s3⟩ := hS'; go_simp)⟩ hS26 ?_
      simp only [List.getElem_toArray, List.getElem_cons_succ, List.getElem_cons_zero, Act.put, List.setIfInBounds_toArray, List.set_cons_zero, List.set_cons_succ]
      refine anyU_take (i := 13) (v := .int .i64 (j : Nat)) rfl (by kernel_rfl) (by kernel_rfl) (by kernel_rfl) (fun _ _ _ h => h) ⟨by rfl, fun w' hS' => (by obtain ⟨s1, s2, s3⟩ := hS'; simp [go_sem, hquo, hwj])⟩ hS26 ?_
      simp only [List.getElem_toArray, List.getElem_cons_succ, List.getElem_cons_zero, Act.put, List.setIfInBounds_toArray, List.set_cons_zero, List.set_cons_succ]
      refine anyU_take (i := 14) (v := .int .i64 y) rfl (by kernel_rfl) (by kernel_rfl) (by kernel_rfl) (fun _ _ _ h => h) ⟨by rfl, fun w' hS' => (by obtain ⟨s1, s2, s3⟩ := hS'; simp [go_sem, hrem])⟩ hS26 ?_
      simp only [List.getElem_toArray, List.getElem_cons_succ, List.getElem_cons_zero, Act.put, List.setIfInBounds_toArray, List.set_cons_zero, List.set_cons_succ]
      refine anyU_take (i := 15) (v := .pointer (some ⟨bA, oA + pp, none⟩)) rfl (by kernel_rfl) (by kernel_rfl) (by kernel_rfl) (fun _ _ _ h => h) ⟨by rfl, fun w' hS' => (by obtain ⟨s1, s2, s3⟩ := hS'; simp [go_sem, hppi])⟩ hS26 ?_
      simp only [List.getElem_toArray, List.getElem_cons_succ, List.getElem_cons_zero, Act.put, List.setIfInBounds_toArray, List.set_cons_zero, List.set_cons_succ]
      have z1 := HGV.out.cell xeA (by simp)
      have z2 := (World.frozen?_of_block (a := ⟨bA, oA + pp, none⟩) (HGV.out.block bA (by omega) (by simp))).trans xfA
      refine anyU_ready (rs := [16]) (by kernel_rfl) (by simp) ?_
      refine ReadyU.cons (i := 16) rfl (fun K hK => ?_) ReadyU.nil
      simp only [List.getElem_toArray, List.getElem_cons_succ, List.getElem_cons_zero]
      refine ite_is (by rfl) ?_
      simp [go_sem, z1, z2]
      refine hK.out _ _ ⟨fun h => absurd h (by decide), ?_⟩
      clear hK K
      try simp only [List.getElem_toArray, List.getElem_cons_succ, List.getElem_cons_zero, Act.put, List.setIfInBounds_toArray, List.set_cons_zero, List.set_cons_succ]
      refine nameU ?_
      intro W27 HW27
      have hg27 : W25.grownBy W27 (some bA) := by rw [HW27.out]; exact grown_set _ ⟨bA, oA + pp, none⟩ _
      have HDNA := Lib.hid (show IntSSx W27 W1.heap.size W2.heap.size (.slice (some ⟨bd, od, none⟩) N.ends.length co) (setAt us' pn pp y) by rw [HW27.out, HW25.out]; exact HSETA.out)
      clear HW27 HW25 z1 z2 hS26 DD25
      have hs27 := hg27.size
      have HF27 := Lib.hid (HF25.out.grown hg27 (fun g hg => by cases hg; omega)); clear HF25
      have BO27 := Lib.hid (BoxN.far BO25.out hg27 (fun g hg => by cases hg; omega)); clear BO25
      clear HGV
      refine anyU_done (by kernel_rfl) ?_ _
      go_wp2_with fail
      have HS2 := Lib.hid (HS.out.setAt (a := pn) hpn pp y)
      obtain ⟨_, _, bB, oB, cB, hAB, e1B, e2B, e3B, e4B, xrB, hr1B, hr2B, xeB, xfB, hsetB⟩ := ISSx.place HDNA.out (by omega) (show tt < (setAt us' pn pp y).length by rw [HS2.out.1]; exact htt) (show tr < (nthL (setAt us' pn pp y) tt).length by rw [HS2.out.2 tt htt]; exact htr)
      injection hAB with hAB
      injection hAB with a1 a2
      subst a1; subst a2
      rw [HS2.out.2 tt htt] at xrB hr1B
      have HSETB := Lib.hid (hsetB y); clear hsetB
      refine wp_region_U (fun w' => w'.cell? ⟨W21.heap.size, 0, none⟩ = some (.int .i64 (tt : Nat)) ∧ w'.cell? ⟨W21.heap.size, 1, none⟩ = some (.int .i64 (tr : Nat)) ∧ w'.cell? ⟨bd, od + tt, none⟩ = some (.slice (some ⟨bB, oB, none⟩) (nthL N.ends tt).length cB)) [11] (by kernel_rfl) ?_
      refine nameU ?_
      intro W28 HW28
      have hg28 : W27.grownBy W28 none := by rw [HW28.out]; exact grown_drew _
      have HGV := Lib.hid hg28
      have hs28 := hg28.size
      have HF28 := Lib.hid (HF27.out.still hg28); clear HF27
      have DD28 := Lib.hid (ISSx.still HDNA.out hg28 (by omega)); clear HDNA
      have BO28 := Lib.hid (BoxN.still BO27.out hg28); clear BO27
      have hS29 : W28.cell? ⟨W21.heap.size, 0, none⟩ = some (.int .i64 (tt : Nat)) ∧ W28.cell? ⟨W21.heap.size, 1, none⟩ = some (.int .i64 (tr : Nat)) ∧ W28.cell? ⟨bd, od + tt, none⟩ = some (.slice (some ⟨bB, oB, none⟩) (nthL N.ends tt).length cB) := ⟨BO28.out.cell 0 (by simp), BO28.out.cell 1 (by simp), (HGV.out.cell xrB (by simp))⟩
      refine anyU_take (i := 0) (v := .slice (some ⟨bd, od, none⟩) N.ends.length co) rfl (by kernel_rfl) (by kernel_rfl) (by kernel_rfl) (fun _ _ _ h => h) ⟨by rfl, fun w' hS' => (by obtain ⟨s1, s2, s3⟩ := hS'; go_simp)⟩ hS29 ?_
      simp only [List.getElem_toArray, List.getElem_cons_zero, Act.put, List.setIfInBounds_toArray, List.set_cons_zero, List.set_cons_succ]
      refine anyU_take (i := 1) (v := .pointer (some ⟨W21.heap.size, 0, none⟩)) rfl (by kernel_rfl) (by kernel_rfl) (by kernel_rfl) (fun _ _ _ h => h) ⟨by rfl, fun w' hS' => (by obtain ⟨s1, s2, s3⟩ := hS'; go_simp)⟩ hS29 ?_
      simp only [List.getElem_toArray, List.getElem_cons_succ, List.getElem_cons_zero, Act.put, List.setIfInBounds_toArray, List.set_cons_zero, List.set_cons_succ]
      refine anyU_take (i := 2) (v := .int .i64 (tt : Nat)) rfl (by kernel_rfl) (by kernel_rfl) (by kernel_rfl) (fun _ _ _ h => h) ⟨by rfl, fun w' hS' => (by obtain ⟨s1, s2, s3⟩ := hS'; go_simp)⟩ hS29 ?_
      simp only [List.getElem_toArray, List.getElem_cons_succ, List.getElem_cons_zero, Act.put, List.setIfInBounds_toArray, List.set_cons_zero, List.set_cons_succ]
      refine anyU_take (i := 3) (v := .pointer (some ⟨bd, od + tt, none⟩)) rfl (by kernel_rfl) (by kernel_rfl) (by kernel_rfl) (fun _ _ _ h => h) ⟨by rfl, fun w' hS' => (by obtain ⟨s1, s2, s3⟩ := hS'; simp [go_sem, htti])⟩ hS29 ?_
      simp only [List.getElem_toArray, List.getElem_cons_succ, List.getElem_cons_zero, Act.put, List.setIfInBounds_toArray, List.set_cons_zero, List.set_cons_succ]
      refine anyU_take (i := 4) (v := .slice (some ⟨bB, oB, none⟩) (nthL N.ends tt).length cB) rfl (by kernel_rfl) (by kernel_rfl) (by kernel_rfl) (fun _ _ _ h => h) ⟨by rfl, fun w' hS' => (by obtain ⟨s1, s2, s3⟩ := hS'; go_simp)⟩ hS29 ?_
      simp only [List.getElem_toArray, List.getElem_cons_succ, List.getElem_cons_zero, Act.put, List.setIfInBounds_toArray, List.set_cons_zero, List.set_cons_succ]
      refine anyU_take (i := 5) (v := .pointer (some ⟨W21.heap.size, 1, none⟩)) rfl (by kernel_rfl) (by kernel_rfl) (by kernel_rfl) (fun _ _ _ h => h) ⟨by rfl, fun w' hS' => (by obtain ⟨s1, s2, s3⟩ := hS'; go_simp)⟩ hS29 ?_
      simp only [List.getElem_toArray, List.getElem_cons_succ, List.getElem_cons_zero, Act.put, List.setIfInBounds_toArray, List.set_cons_zero, List.set_cons_succ]
      refine anyU_take (i := 6) (v := .int .i64 (tr : Nat)) rfl (by kernel_rfl) (by kernel_rfl) (by kernel_rfl) (fun _ _ _ h => h) ⟨by rfl, fun w' hS' => (by obtain ⟨s1, s2, s3⟩ := hS'; go_simp)⟩ hS29 ?_
      simp only [List.getElem_toArray, List.getElem_cons_succ, List.getElem_cons_zero, Act.put, List.setIfInBounds_toArray, List.set_cons_zero, List.set_cons_succ]
      refine anyU_take (i := 7) (v := .int .i64 (n9 : Nat)) rfl (by kernel_rfl) (by kernel_rfl) (by kernel_rfl) (fun _ _ _ h => h) ⟨by rfl, fun w' hS' => (by obtain ⟨s1, s2, s3⟩ := hS'; go_simp)⟩ hS29 ?_
      simp only [List.getElem_toArray, List.getElem_cons_succ, List.getElem_cons_zero, Act.put, List.setIfInBounds_toArray, List.set_cons_zero, List.set_cons_succ]
      refine anyU_take (i := 8) (v := .int .i64 (j : Nat)) rfl (by kernel_rfl) (by kernel_rfl) (by kernel_rfl) (fun _ _ _ h => h) ⟨by rfl, fun w' hS' => (by obtain ⟨s1, s2, s3⟩ := hS'; simp [go_sem, hquo, hwj])⟩ hS29 ?_
      simp only [List.getElem_toArray, List.getElem_cons_succ, List.getElem_cons_zero, Act.put, List.setIfInBounds_toArray, List.set_cons_zero, List.set_cons_succ]
      refine anyU_take (i := 9) (v := .int .i64 y) rfl (by kernel_rfl) (by kernel_rfl) (by kernel_rfl) (fun _ _ _ h => h) ⟨by rfl, fun w' hS' => (by obtain ⟨s1, s2, s3⟩ := hS'; simp [go_sem, hrem])⟩ hS29 ?_
      simp only [List.getElem_toArray, List.getElem_cons_succ, List.getElem_cons_zero, Act.put, List.setIfInBounds_toArray, List.set_cons_zero, List.set_cons_succ]
      refine anyU_take (i := 10) (v := .pointer (some ⟨bB, oB + tr, none⟩)) rfl (by kernel_rfl) (by kernel_rfl) (by kernel_rfl) (fun _ _ _ h => h) ⟨by rfl, fun w' hS' => (by obtain ⟨s1, s2, s3⟩ := hS'; simp [go_sem, htri])⟩ hS29 ?_
      simp only [List.getElem_toArray, List.getElem_cons_succ, List.getElem_cons_zero, Act.put, List.setIfInBounds_toArray, List.set_cons_zero, List.set_cons_succ]
      have z1 := HGV.out.cell xeB (by simp)
      have z2 := (World.frozen?_of_block (a := ⟨bB, oB + tr, none⟩) (HGV.out.block bB (by omega) (by simp))).trans xfB
      refine anyU_ready (rs := [11]) (by kernel_rfl) (by simp) ?_
      refine ReadyU.cons (i := 11) rfl (fun K hK => ?_) ReadyU.nil
      simp only [List.getElem_toArray, List.getElem_cons_succ, List.getElem_cons_zero]
      refine ite_is (by rfl) ?_
      simp [go_sem, z1, z2]
      refine hK.out _ _ ⟨fun h => absurd h (by decide), ?_⟩
      clear hK K
      try simp only [List.getElem_toArray, List.getElem_cons_succ, List.getElem_cons_zero, Act.put, List.setIfInBounds_toArray, List.set_cons_zero, List.set_cons_succ]
      refine nameU ?_
      intro W30 HW30
      have hg30 : W28.grownBy W30 (some bB) := by rw [HW30.out]; exact grown_set _ ⟨bB, oB + tr, none⟩ _
      have HDNB := Lib.hid (show IntSSx W30 W1.heap.size W2.heap.size (.slice (some ⟨bd, od, none⟩) N.ends.length co) (setAt (setAt us' pn pp y) tt tr y) by rw [HW30.out, HW28.out]; exact HSETB.out)
      clear HW30 HW28 z1 z2 hS29 DD28
      have hs30 := hg30.size
      have HF30 := Lib.hid (HF28.out.grown hg30 (fun g hg => by cases hg; omega)); clear HF28
      have BO30 := Lib.hid (BoxN.far BO28.out hg30 (fun g hg => by cases hg; omega)); clear BO28
      clear HGV
      refine anyU_done (by kernel_rfl) ?_ _
      go_wp2_with fail
      have HDN := HDNB
      go_roundw
      case rel => exact ⟨j + 1, _, by omega, by rw [show 2 * (j + 1) = n9 + 2 by have := HN9.out; omega]; go_num, HNX', HDN, Lib.hid ((HS.out.setAt hpn _ _).setAt htt _ _), HF30⟩
      case measure => simp [intOf]; have := HN9.out; omega

end Go.Proofs.YtpanigomfmfknaaGreat
