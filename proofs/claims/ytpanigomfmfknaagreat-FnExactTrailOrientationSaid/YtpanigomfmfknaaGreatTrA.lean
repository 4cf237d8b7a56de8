/-
  Contracts: TrailOrientation (program and reference).
-/
import Derived.Test.YtpanigomfmfknaaGreatTs3
import Derived.Test.YtpanigomfmfknaaGreatEdge2
namespace Go.Proofs.YtpanigomfmfknaaGreat
open Go.ChangeShapes Go.WideShapes Go.ChangeAt Go.RowKit
set_option linter.unusedVariables false

def stepsF (f : List (List Int) → Nat → Po → List (List Int)) (l : List Po) (x : List (List Int)) : Nat → List (List Int)
  | 0 => x
  | j + 1 => f (stepsF f l x j) j (nthP l j)
def allF (f : List (List Int) → Nat → Po → List (List Int)) (ts : List (List Po)) (x : List (List Int)) : Nat → List (List Int)
  | 0 => x
  | k + 1 => stepsF f (nthT ts k) (allF f ts x k) (nthT ts k).length
/-- a step that keeps the shape -/
def KeepS (N : NetD) (f : List (List Int) → Nat → Po → List (List Int)) : Prop := ∀ x j p, Shape N x → okP N p → Shape N (f x j p)
section
variable {N : NetD} {f : List (List Int) → Nat → Po → List (List Int)}
theorem stepsF_shape (hf : KeepS N f) {l : List Po} (hl : ∀ p ∈ l, okP N p) {x : List (List Int)} (hx : Shape N x) : ∀ j, j ≤ l.length → Shape N (stepsF f l x j)
  | 0, _ => hx
  | j + 1, hj => hf _ _ _ (stepsF_shape hf hl hx j (by omega)) (hl _ (nthP_mem hj))
theorem trails_ok (hg : N.good = true) {k : Nat} (hk : k < (trails N).length) : ∀ p ∈ nthT (trails N) k, okP N p := by
  obtain ⟨s, _, hc⟩ := trails_ch hg (nthT_mem hk)
  exact hc.ok
theorem allF_shape (hg : N.good = true) (hf : KeepS N f) : ∀ k, k ≤ (trails N).length → Shape N (allF f (trails N) (zeroP N) k)
  | 0, _ => Shape.zero N
  | k + 1, hk => stepsF_shape hf (trails_ok hg hk) (allF_shape hg hf k (by omega)) _ (Nat.le_refl _)
end
noncomputable def outF (N : NetD) (f : List (List Int) → Nat → Po → List (List Int)) : List (List Int) := if N.stubless = true then allF f (trails N) (zeroP N) (trails N).length else []
theorem outF_cnt {N : NetD} {f : List (List Int) → Nat → Po → List (List Int)} (hf : KeepS N f) : cntSS (outF N f) ≤ N.cnt := by
  unfold outF
  split
  · rename_i h
    rw [(allF_shape (stubless_good h) hf _ (Nat.le_refl _)).cnt]
    unfold NetD.cnt; omega
  · show 0 ≤ _; omega

theorem toF_keep (N : NetD) : KeepS N (fun x _ p => setAt x p.1 p.2 1) := fun x j p hx hp => hx.setAt hp.1 _ _
theorem toOut_cnt (N : NetD) : cntSS (outF N (fun x _ p => setAt x p.1 p.2 1)) ≤ N.cnt := outF_cnt (toF_keep N)

set_option maxHeartbeats 8000000 in
set_option maxRecDepth 100000 in
theorem TrailOrientation_impl (v1 : Value) (N : NetD) (lo1 hi1 : Nat) (w : World) (h1 : Net w lo1 hi1 v1 N) (hh1 : hi1 ≤ w.heap.size) (hz1 : N.sz ≤ 1048576) (ok1 : N.Ok) :
    Calls Tryz.prog 8 #[v1] w fun e w' => ∃ r, e = .returned (.tuple #[r, .bool N.stubless]) ∧ IntSSx w' w.heap.size w'.heap.size r (outF N (fun x _ p => setAt x p.1 p.2 1)) ∧ Below w.heap.size w w' := by
  clear ok1
  have F1 := Lib.hid h1
  obtain ⟨A1, c1, A1', c1', A1'', c1'', rfl, hc1, hd1, _⟩ := h1.parts
  clear h1
  obtain ⟨WA, HWA⟩ : ∃ W, Hid (W = (w.alloc (.cells #[.slice A1 N.ends.length c1, .slice A1' N.ids.length c1', .slice A1'' N.inputs.length c1''] 32))) := ⟨_, Lib.hid rfl⟩
  have hbA : Below w.heap.size w WA := by rw [HWA.out]; exact ((Below.refl _ _).alloc (Nat.le_refl _) _)
  have hsA : w.heap.size + 1 ≤ WA.heap.size := by rw [HWA.out]; simp; try omega
  have bx1 : BoxN WA (w.heap.size) #[.slice A1 N.ends.length c1, .slice A1' N.ids.length c1', .slice A1'' N.inputs.length c1''] 32 := by rw [HWA.out]; exact (BoxN.new' _ _ _ (by simp))
  have G1 := Lib.hid (Net.below F1.out hbA hh1); clear F1
  go_enter Tryz.func8, Tryz.ntmps8
  go_upto_region 1 with (fail)
  rw [← HWA.out]; clear HWA
  have kbx1_0 : WA.cell? ⟨w.heap.size, 0, none⟩ = some (.slice A1 N.ends.length c1) := bx1.cell 0 (by simp)
  have kbx1_1 : WA.cell? ⟨w.heap.size, 1, none⟩ = some (.slice A1' N.ids.length c1') := bx1.cell 1 (by simp)
  have kbx1_2 : WA.cell? ⟨w.heap.size, 2, none⟩ = some (.slice A1'' N.inputs.length c1'') := bx1.cell 2 (by simp)
  go_wp2_with fail
  clear kbx1_0 kbx1_1 kbx1_2
  refine (stubless_any _ N lo1 hi1 _ G1.out (by omega) hz1).mono ?_
  rintro e W1 ⟨rfl, hb1⟩
  have hg1 := grown_below hb1; clear hb1
  have hs1 := hg1.size
  have HF1 := Lib.hid ((Turned.refl WA.heap.size WA.heap.size WA).still hg1)
  by_cases hst : N.stubless = true
  case neg =>
    have hst' : N.stubless = false := by simpa using hst
    rw [hst']
    have HST := Lib.hid hst'; clear hst hst'
    go_wp2_with fail
    go_ret2
    exact ⟨_, ret_vb HST.out.symm, by unfold outF; rw [HST.out, if_neg (by simp)]; exact SSx.nil _ _ _, (HF1.out.below_of hbA (by omega) (by omega))⟩
  rw [hst]
  have HST := Lib.hid hst; clear hst
  have HG := Lib.hid (stubless_good HST.out)
  obtain ⟨n1, n40⟩ := good_n HG.out
  have kbx1_0 : W1.cell? ⟨w.heap.size, 0, none⟩ = some (.slice A1 N.ends.length c1) := (HF1.out.boxN bx1 (by omega)).cell 0 (by simp)
  have kbx1_1 : W1.cell? ⟨w.heap.size, 1, none⟩ = some (.slice A1' N.ids.length c1') := (HF1.out.boxN bx1 (by omega)).cell 1 (by simp)
  have kbx1_2 : W1.cell? ⟨w.heap.size, 2, none⟩ = some (.slice A1'' N.inputs.length c1'') := (HF1.out.boxN bx1 (by omega)).cell 2 (by simp)
  go_wp2_with fail
  clear kbx1_0 kbx1_1 kbx1_2
  refine (byPorts_any _ N lo1 hi1 _ (Net.turned G1.out HF1.out (by omega) (by omega)) (by omega) HG.out).mono ?_
  rintro e W2 ⟨ro, rfl, hro, hb2⟩
  have hg2 := grown_below hb2; clear hb2
  have hs2 := hg2.size
  have HF2 := Lib.hid (HF1.out.still hg2); clear HF1
  have O2 := Lib.hid hro; clear hro
  obtain ⟨Ao, co, hvo, hco, hdo⟩ := ISSx.dims O2.out
  rw [zeroP_length] at hvo hco
  subst hvo
  have kbx1_0 : W2.cell? ⟨w.heap.size, 0, none⟩ = some (.slice A1 N.ends.length c1) := (HF2.out.boxN bx1 (by omega)).cell 0 (by simp)
  have kbx1_1 : W2.cell? ⟨w.heap.size, 1, none⟩ = some (.slice A1' N.ids.length c1') := (HF2.out.boxN bx1 (by omega)).cell 1 (by simp)
  have kbx1_2 : W2.cell? ⟨w.heap.size, 2, none⟩ = some (.slice A1'' N.inputs.length c1'') := (HF2.out.boxN bx1 (by omega)).cell 2 (by simp)
  go_wp2_with fail
  clear kbx1_0 kbx1_1 kbx1_2
  refine (trails_any _ N lo1 hi1 _ (Net.turned G1.out HF2.out (by omega) (by omega)) (by omega) HG.out).mono ?_
  rintro e W3 ⟨rt, rfl, hrt, hb3⟩
  have hg3 := grown_below hb3; clear hb3
  have hs3 := hg3.size
  have HF3 := Lib.hid (HF2.out.still hg3); clear HF2
  have O3 := Lib.hid (ISSx.still O2.out hg3 (by omega)); clear O2
  have TT3 := Lib.hid hrt; clear hrt
  have N_3 := Lib.hid (Net.turned G1.out HF3.out (by omega) (by omega)); clear G1
  have bx1_3 := HF3.out.boxN bx1 (by omega); clear bx1
  have hbA3 := (HF3.out.below_of hbA (by omega) (by omega)); clear hbA HF3
  obtain ⟨nt, HNT⟩ : ∃ n, Hid ((trails N).length = n) := ⟨_, Lib.hid rfl⟩
  have HNL := Lib.hid (show nt ≤ 240 by rw [← HNT.out]; exact trails_len HG.out)
  have HSS := Lib.hid (TT3.out)
  obtain ⟨At, ct, hvt, hct, hdt⟩ := SS.dims HSS.out
  rw [List.length_map, HNT.out] at hvt hct
  subst hvt
  go_wp2_with fail
  go_loopw [17] (fun iv wr => ∃ (k : Nat) (us : List (List Int)), k ≤ nt ∧ iv = .int .i64 k ∧ Hid (allF (fun x _ p => setAt x p.1 p.2 1) (trails N) (zeroP N) k = us) ∧ Hid (IntSSx wr W1.heap.size W2.heap.size (.slice Ao N.ends.length co) us) ∧ Hid (Shape N us) ∧ Hid (Turned W1.heap.size W2.heap.size W3 wr)) (fun iv _ => nt - (intOf iv).toNat)
  case atStart => exact ⟨0, zeroP N, Nat.zero_le _, rfl, Lib.hid rfl, O3, Lib.hid (Shape.zero N), Lib.hid (Turned.refl _ _ _)⟩
  case round =>
    clear O3
    obtain ⟨k, us, hk, rfl, HX, HD, HS, HF⟩ := hrel
    have hsk := HF.out.size
    by_cases hlt : k < nt
    case neg =>
      obtain rfl : k = nt := by omega
      go_wp2_with fail
      go_ret2
      refine ⟨_, ret_vb HST.out.symm, ?_, HF.out.below_of hbA3 (by omega) (by omega)⟩
      have e : outF N (fun x _ p => setAt x p.1 p.2 1) = us := by unfold outF; rw [HST.out, if_pos rfl, HNT.out]; exact HX.out
      rw [e]
      exact ISSx.mono HD.out (by omega) (by omega)
    obtain ⟨bt, ot, u, hAt, hbt1, hbt, qt, hu⟩ := SS.opened HSS.out (j := k) (by rw [List.length_map, HNT.out]; exact hlt)
    subst hAt
    replace qt := (HF.out.cell (by omega) (by omega)).trans qt
    obtain ⟨l, HLK⟩ : ∃ l, Hid (nthT (trails N) k = l) := ⟨_, Lib.hid rfl⟩
    have hkl : k < (trails N).length := by rw [HNT.out]; exact hlt
    have hnl : nthL ((trails N).map castL) k = castL l := by rw [← HLK.out]; simp [nthL, nthT, hkl]
    rw [hnl] at hu
    have HOKL := Lib.hid (show ∀ p ∈ l, okP N p from by rw [← HLK.out]; exact trails_ok HG.out hkl)
    have HLM := Lib.hid (show l.length ≤ 240 by
      rw [← HLK.out]
      obtain ⟨s, _, hc⟩ := trails_ch HG.out (nthT_mem hkl)
      exact hc.len HG.out)
    have HNX := Lib.hid (show allF (fun x _ p => setAt x p.1 p.2 1) (trails N) (zeroP N) (k + 1) = stepsF (fun x _ p => setAt x p.1 p.2 1) l us l.length by rw [← HX.out, ← HLK.out]; rfl)
    clear hkl hnl
    have HUE := Lib.hid hu
    have hll := HLM.out
    obtain ⟨Au, cu, hvu, hcu, hdu⟩ := hu.dims
    rw [castL_length] at hvu hcu
    subst hvu
    clear hu
    go_wp2_with fail
    clear qt
    obtain ⟨wo, rfl⟩ : ∃ wo : World, wo = wr := ⟨_, rfl⟩
    go_loopw [23] (fun jv wr => ∃ (j : Nat) (us' : List (List Int)), j ≤ l.length ∧ jv = .int .i64 j ∧ Hid (stepsF (fun x _ p => setAt x p.1 p.2 1) l us j = us') ∧ Hid (IntSSx wr W1.heap.size W2.heap.size (.slice Ao N.ends.length co) us') ∧ Hid (Shape N us') ∧ Hid (Turned W1.heap.size W2.heap.size W3 wr)) (fun jv _ => l.length - (intOf jv).toNat)
    case atStart => exact ⟨0, us, Nat.zero_le _, rfl, Lib.hid rfl, HD, HS, HF⟩
    case round =>
      clear HD HS HF hsk
      obtain ⟨j, us', hj, rfl, HX', HD, HS, HF⟩ := hrel
      have hsj := HF.out.size
      by_cases hjl : j < l.length
      case neg =>
        obtain rfl : j = l.length := by omega
        go_wp2_with fail
        go_roundw
        case rel => exact ⟨k + 1, us', by omega, by go_num, Lib.hid (by rw [HNX.out, HX'.out]), HD, HS, HF⟩
        case measure => simp [intOf]; omega
      obtain ⟨⟨pn, pp⟩, HP⟩ : ∃ p, Hid (nthP l j = p) := ⟨_, Lib.hid rfl⟩
      have HPO := Lib.hid (show okP N (pn, pp) by rw [← HP.out]; exact HOKL.out _ (nthP_mem hjl))
      obtain ⟨hpn, hpp⟩ := HPO.out
      dsimp only at hpn hpp
      unfold degAt at hpp
      have hpni : (pn : Int) < N.ends.length := by omega
      have hppi : (pp : Int) < (nthL N.ends pn).length := by omega
      have HNX' := Lib.hid (show stepsF (fun x _ p => setAt x p.1 p.2 1) l us (j + 1) = setAt us' pn pp 1 by rw [stepsF, HX'.out, HP.out])
      have hjc : j < (castL l).length := by rw [castL_length]; exact hjl
      obtain ⟨bu, ou, hAu, _, hbu, x1, x2⟩ := (EndS.turned HUE.out HF.out (by omega) (by omega)).opened hjc
      subst hAu
      rw [nthE_castL hjl, HP.out] at x1 x2
      dsimp only at x1 x2
      clear hjc
      go_upto_region 10 with (fail)
      refine nameC ?_
      intro W21 HW21
      have hg21 : wr.grownBy W21 none := by rw [HW21.out]; exact grown_alloc _ _
      have hs21 := hg21.size
      have HF21 := Lib.hid (HF.out.still hg21); clear HF
      have DD21 := Lib.hid (ISSx.still HD.out hg21 (by omega)); clear HD
      have BE21 := Lib.hid (show BoxN W21 wr.heap.size #[.int .i64 (pn : Nat), .int .i64 (pp : Nat)] 48 by rw [HW21.out]; exact BoxN.new _ _ _)
      clear HW21 x1 x2
      obtain ⟨bd, od, bA, oA, cA, hAA, e1A, e2A, e3A, e4A, xrA, hr1A, hr2A, xeA, xfA, hsetA⟩ := ISSx.place DD21.out (by omega) (show pn < us'.length by rw [HS.out.1]; exact hpn) (show pp < (nthL us' pn).length by rw [HS.out.2 pn hpn]; exact hpp)
      subst hAA
      rw [HS.out.2 pn hpn] at xrA hr1A
      have HSETA := Lib.hid hsetA; clear hsetA
      refine wp_region_U (fun w' => w'.cell? ⟨wr.heap.size, 0, none⟩ = some (.int .i64 (pn : Nat)) ∧ w'.cell? ⟨wr.heap.size, 1, none⟩ = some (.int .i64 (pp : Nat)) ∧ w'.cell? ⟨bd, od + pn, none⟩ = some (.slice (some ⟨bA, oA, none⟩) (nthL N.ends pn).length cA)) [8] (by kernel_rfl) ?_
      refine nameU ?_
      intro W22 HW22
      have hg22 : W21.grownBy W22 none := by rw [HW22.out]; exact grown_drew _
      have HGV := Lib.hid hg22
      have hs22 := hg22.size
      have HF22 := Lib.hid (HF21.out.still hg22); clear HF21
      have DD22 := Lib.hid (ISSx.still DD21.out hg22 (by omega)); clear DD21
      have BE22 := Lib.hid (BoxN.still BE21.out hg22); clear BE21
      have hS23 : W22.cell? ⟨wr.heap.size, 0, none⟩ = some (.int .i64 (pn : Nat)) ∧ W22.cell? ⟨wr.heap.size, 1, none⟩ = some (.int .i64 (pp : Nat)) ∧ W22.cell? ⟨bd, od + pn, none⟩ = some (.slice (some ⟨bA, oA, none⟩) (nthL N.ends pn).length cA) := ⟨BE22.out.cell 0 (by simp), BE22.out.cell 1 (by simp), (HGV.out.cell xrA (by simp))⟩
      refine anyU_take (i := 0) (v := .slice (some ⟨bd, od, none⟩) N.ends.length co) rfl (by kernel_rfl) (by kernel_rfl) (by kernel_rfl) (fun _ _ _ h => h) ⟨by rfl, fun w' hS' => (by obtain ⟨s1, s2, s3⟩ := hS'; go_simp)⟩ hS23 ?_
      simp only [List.getElem_toArray, List.getElem_cons_zero, Act.put, List.setIfInBounds_toArray, List.set_cons_zero, List.set_cons_succ]
      refine anyU_take (i := 1) (v := .pointer (some ⟨wr.heap.size, 0, none⟩)) rfl (by kernel_rfl) (by kernel_rfl) (by kernel_rfl) (fun _ _ _ h => h) ⟨by rfl, fun w' hS' => (by obtain ⟨s1, s2, s3⟩ := hS'; go_simp)⟩ hS23 ?_
      simp only [List.getElem_toArray, List.getElem_cons_succ, List.getElem_cons_zero, Act.put, List.setIfInBounds_toArray, List.set_cons_zero, List.set_cons_succ]
      refine anyU_take (i := 2) (v := .int .i64 (pn : Nat)) rfl (by kernel_rfl) (by kernel_rfl) (by kernel_rfl) (fun _ _ _ h => h) ⟨by rfl, fun w' hS' => (by obtain ⟨s1, s2, s3⟩ := hS'; go_simp)⟩ hS23 ?_
      simp only [List.getElem_toArray, List.getElem_cons_succ, List.getElem_cons_zero, Act.put, List.setIfInBounds_toArray, List.set_cons_zero, List.set_cons_succ]
      refine anyU_take (i := 3) (v := .pointer (some ⟨bd, od + pn, none⟩)) rfl (by kernel_rfl) (by kernel_rfl) (by kernel_rfl) (fun _ _ _ h => h) ⟨by rfl, fun w' hS' => (by obtain ⟨s1, s2, s3⟩ := hS'; simp [go_sem, hpni])⟩ hS23 ?_
      simp only [List.getElem_toArray, List.getElem_cons_succ, List.getElem_cons_zero, Act.put, List.setIfInBounds_toArray, List.set_cons_zero, List.set_cons_succ]
      refine anyU_take (i := 4) (v := .slice (some ⟨bA, oA, none⟩) (nthL N.ends pn).length cA) rfl (by kernel_rfl) (by kernel_rfl) (by kernel_rfl) (fun _ _ _ h => h) ⟨by rfl, fun w' hS' => (by obtain ⟨s1, s2, s3⟩ := hS'; go_simp)⟩ hS23 ?_
      simp only [List.getElem_toArray, List.getElem_cons_succ, List.getElem_cons_zero, Act.put, List.setIfInBounds_toArray, List.set_cons_zero, List.set_cons_succ]
      refine anyU_take (i := 5) (v := .pointer (some ⟨wr.heap.size, 1, none⟩)) rfl (by kernel_rfl) (by kernel_rfl) (by kernel_rfl) (fun _ _ _ h => h) ⟨by rfl, fun w' hS' => (by obtain ⟨s1, s2, s3⟩ := hS'; go_simp)⟩ hS23 ?_
      simp only [List.getElem_toArray, List.getElem_cons_succ, List.getElem_cons_zero, Act.put, List.setIfInBounds_toArray, List.set_cons_zero, List.set_cons_succ]
      refine anyU_take (i := 6) (v := .int .i64 (pp : Nat)) rfl (by kernel_rfl) (by kernel_rfl) (by kernel_rfl) (fun _ _ _ h => h) ⟨by rfl, fun w' hS' => (by obtain ⟨s1, s2, s3⟩ := hS'; go_simp)⟩ hS23 ?_
      simp only [List.getElem_toArray, List.getElem_cons_succ, List.getElem_cons_zero, Act.put, List.setIfInBounds_toArray, List.set_cons_zero, List.set_cons_succ]
      refine anyU_take (i := 7) (v := .pointer (some ⟨bA, oA + pp, none⟩)) rfl (by kernel_rfl) (by kernel_rfl) (by kernel_rfl) (fun _ _ _ h => h) ⟨by rfl, fun w' hS' => (by obtain ⟨s1, s2, s3⟩ := hS'; simp [go_sem, hppi])⟩ hS23 ?_
      simp only [List.getElem_toArray, List.getElem_cons_succ, List.getElem_cons_zero, Act.put, List.setIfInBounds_toArray, List.set_cons_zero, List.set_cons_succ]
      have z1 := HGV.out.cell xeA (by simp)
      have z2 := (World.frozen?_of_block (a := ⟨bA, oA + pp, none⟩) (HGV.out.block bA (by omega) (by simp))).trans xfA
      refine anyU_ready (rs := [8]) (by kernel_rfl) (by simp) ?_
      refine ReadyU.cons (i := 8) rfl (fun K hK => ?_) ReadyU.nil
      simp only [List.getElem_toArray, List.getElem_cons_succ, List.getElem_cons_zero]
      refine ite_is (by rfl) ?_
      simp [go_sem, z1, z2]
      refine hK.out _ _ ⟨fun h => absurd h (by decide), ?_⟩
      clear hK K
      try simp only [List.getElem_toArray, List.getElem_cons_succ, List.getElem_cons_zero, Act.put, List.setIfInBounds_toArray, List.set_cons_zero, List.set_cons_succ]
      refine nameU ?_
      intro W24 HW24
      have hg24 : W22.grownBy W24 (some bA) := by rw [HW24.out]; exact grown_set _ ⟨bA, oA + pp, none⟩ _
      have HDN := Lib.hid (show IntSSx W24 W1.heap.size W2.heap.size (.slice (some ⟨bd, od, none⟩) N.ends.length co) (setAt us' pn pp 1) by rw [HW24.out, HW22.out]; exact HSETA.out 1)
      clear HW24 HW22 z1 z2 hS23 DD22
      have hs24 := hg24.size
      have HF24 := Lib.hid (HF22.out.grown hg24 (fun g hg => by cases hg; omega)); clear HF22
      have BE24 := Lib.hid (BoxN.far BE22.out hg24 (fun g hg => by cases hg; omega)); clear BE22
      refine anyU_done (by kernel_rfl) ?_ _
      go_wp2_with fail
      go_roundw
      case rel => exact ⟨j + 1, _, by omega, by go_num, HNX', HDN, Lib.hid (HS.out.setAt hpn _ _), HF24⟩
      case measure => simp [intOf]; omega

set_option maxHeartbeats 8000000 in
set_option maxRecDepth 100000 in
theorem TrailOrientation_spec (v1 : Value) (N : NetD) (lo1 hi1 : Nat) (w : World) (h1 : Net w lo1 hi1 v1 N) (hh1 : hi1 ≤ w.heap.size) (hz1 : N.sz ≤ 1048576) (ok1 : N.Ok) :
    Calls Tryz.prog 6 #[v1] w fun e w' => ∃ r, e = .returned (.tuple #[r, .bool N.stubless]) ∧ IntSSx w' w.heap.size w'.heap.size r (outF N (fun x _ p => setAt x p.1 p.2 1)) ∧ Below w.heap.size w w' := by
  clear ok1
  have F1 := Lib.hid h1
  obtain ⟨A1, c1, A1', c1', A1'', c1'', rfl, hc1, hd1, _⟩ := h1.parts
  clear h1
  obtain ⟨WA, HWA⟩ : ∃ W, Hid (W = (w.alloc (.cells #[.slice A1 N.ends.length c1, .slice A1' N.ids.length c1', .slice A1'' N.inputs.length c1''] 32))) := ⟨_, Lib.hid rfl⟩
  have hbA : Below w.heap.size w WA := by rw [HWA.out]; exact ((Below.refl _ _).alloc (Nat.le_refl _) _)
  have hsA : w.heap.size + 1 ≤ WA.heap.size := by rw [HWA.out]; simp; try omega
  have bx1 : BoxN WA (w.heap.size) #[.slice A1 N.ends.length c1, .slice A1' N.ids.length c1', .slice A1'' N.inputs.length c1''] 32 := by rw [HWA.out]; exact (BoxN.new' _ _ _ (by simp))
  have G1 := Lib.hid (Net.below F1.out hbA hh1); clear F1
  go_enter Tryz.func6, Tryz.ntmps6
  go_upto_region 1 with (fail)
  rw [← HWA.out]; clear HWA
  have kbx1_0 : WA.cell? ⟨w.heap.size, 0, none⟩ = some (.slice A1 N.ends.length c1) := bx1.cell 0 (by simp)
  have kbx1_1 : WA.cell? ⟨w.heap.size, 1, none⟩ = some (.slice A1' N.ids.length c1') := bx1.cell 1 (by simp)
  have kbx1_2 : WA.cell? ⟨w.heap.size, 2, none⟩ = some (.slice A1'' N.inputs.length c1'') := bx1.cell 2 (by simp)
  go_wp2_with fail
  clear kbx1_0 kbx1_1 kbx1_2
  refine (orGood_any _ N lo1 hi1 _ G1.out (by omega) hz1).mono ?_
  rintro e W1 ⟨rfl, hb1⟩
  have hg1 := grown_below hb1; clear hb1
  have hs1 := hg1.size
  have HF1 := Lib.hid ((Turned.refl WA.heap.size WA.heap.size WA).still hg1)
  by_cases hst : N.stubless = true
  case neg =>
    have hst' : N.stubless = false := by simpa using hst
    rw [hst']
    have HST := Lib.hid hst'; clear hst hst'
    go_wp2_with fail
    go_ret2
    exact ⟨_, ret_vb HST.out.symm, by unfold outF; rw [HST.out, if_neg (by simp)]; exact SSx.nil _ _ _, (HF1.out.below_of hbA (by omega) (by omega))⟩
  rw [hst]
  have HST := Lib.hid hst; clear hst
  have HG := Lib.hid (stubless_good HST.out)
  obtain ⟨n1, n40⟩ := good_n HG.out
  have kbx1_0 : W1.cell? ⟨w.heap.size, 0, none⟩ = some (.slice A1 N.ends.length c1) := (HF1.out.boxN bx1 (by omega)).cell 0 (by simp)
  have kbx1_1 : W1.cell? ⟨w.heap.size, 1, none⟩ = some (.slice A1' N.ids.length c1') := (HF1.out.boxN bx1 (by omega)).cell 1 (by simp)
  have kbx1_2 : W1.cell? ⟨w.heap.size, 2, none⟩ = some (.slice A1'' N.inputs.length c1'') := (HF1.out.boxN bx1 (by omega)).cell 2 (by simp)
  go_wp2_with fail
  clear kbx1_0 kbx1_1 kbx1_2
  refine (orZero_any _ N lo1 hi1 _ (Net.turned G1.out HF1.out (by omega) (by omega)) (by omega) HG.out).mono ?_
  rintro e W2 ⟨ro, rfl, hro, hb2⟩
  have hg2 := grown_below hb2; clear hb2
  have hs2 := hg2.size
  have HF2 := Lib.hid (HF1.out.still hg2); clear HF1
  have O2 := Lib.hid hro; clear hro
  obtain ⟨Ao, co, hvo, hco, hdo⟩ := ISSx.dims O2.out
  rw [zeroP_length] at hvo hco
  subst hvo
  have kbx1_0 : W2.cell? ⟨w.heap.size, 0, none⟩ = some (.slice A1 N.ends.length c1) := (HF2.out.boxN bx1 (by omega)).cell 0 (by simp)
  have kbx1_1 : W2.cell? ⟨w.heap.size, 1, none⟩ = some (.slice A1' N.ids.length c1') := (HF2.out.boxN bx1 (by omega)).cell 1 (by simp)
  have kbx1_2 : W2.cell? ⟨w.heap.size, 2, none⟩ = some (.slice A1'' N.inputs.length c1'') := (HF2.out.boxN bx1 (by omega)).cell 2 (by simp)
  go_wp2_with fail
  clear kbx1_0 kbx1_1 kbx1_2
  refine (orTrails_any _ N lo1 hi1 _ (Net.turned G1.out HF2.out (by omega) (by omega)) (by omega) HG.out).mono ?_
  rintro e W3 ⟨rt, rfl, hrt, hb3⟩
  have hg3 := grown_below hb3; clear hb3
  have hs3 := hg3.size
  have HF3 := Lib.hid (HF2.out.still hg3); clear HF2
  have O3 := Lib.hid (ISSx.still O2.out hg3 (by omega)); clear O2
  have TT3 := Lib.hid hrt; clear hrt
  have N_3 := Lib.hid (Net.turned G1.out HF3.out (by omega) (by omega)); clear G1
  have bx1_3 := HF3.out.boxN bx1 (by omega); clear bx1
  have hbA3 := (HF3.out.below_of hbA (by omega) (by omega)); clear hbA HF3
  obtain ⟨nt, HNT⟩ : ∃ n, Hid ((trails N).length = n) := ⟨_, Lib.hid rfl⟩
  have HNL := Lib.hid (show nt ≤ 240 by rw [← HNT.out]; exact trails_len HG.out)
  have HSS := Lib.hid (TT3.out.ss)
  obtain ⟨At, ct, hvt, hct, hdt⟩ := SS.dims HSS.out
  rw [List.length_map, HNT.out] at hvt hct
  subst hvt
  go_wp2_with fail
  go_loopw [16] (fun iv wr => ∃ (k : Nat) (us : List (List Int)), k ≤ nt ∧ iv = .int .i64 k ∧ Hid (allF (fun x _ p => setAt x p.1 p.2 1) (trails N) (zeroP N) k = us) ∧ Hid (IntSSx wr W1.heap.size W2.heap.size (.slice Ao N.ends.length co) us) ∧ Hid (Shape N us) ∧ Hid (Turned W1.heap.size W2.heap.size W3 wr)) (fun iv _ => nt - (intOf iv).toNat)
  case atStart => exact ⟨0, zeroP N, Nat.zero_le _, rfl, Lib.hid rfl, O3, Lib.hid (Shape.zero N), Lib.hid (Turned.refl _ _ _)⟩
  case round =>
    clear O3
    obtain ⟨k, us, hk, rfl, HX, HD, HS, HF⟩ := hrel
    have hsk := HF.out.size
    by_cases hlt : k < nt
    case neg =>
      obtain rfl : k = nt := by omega
      go_wp2_with fail
      go_ret2
      refine ⟨_, ret_vb HST.out.symm, ?_, HF.out.below_of hbA3 (by omega) (by omega)⟩
      have e : outF N (fun x _ p => setAt x p.1 p.2 1) = us := by unfold outF; rw [HST.out, if_pos rfl, HNT.out]; exact HX.out
      rw [e]
      exact ISSx.mono HD.out (by omega) (by omega)
    obtain ⟨bt, ot, u, hAt, hbt1, hbt, qt, hu⟩ := SS.opened HSS.out (j := k) (by rw [List.length_map, HNT.out]; exact hlt)
    subst hAt
    replace qt := (HF.out.cell (by omega) (by omega)).trans qt
    obtain ⟨l, HLK⟩ : ∃ l, Hid (nthT (trails N) k = l) := ⟨_, Lib.hid rfl⟩
    have hkl : k < (trails N).length := by rw [HNT.out]; exact hlt
    have hnl : nthL ((trails N).map numsP) k = numsP l := by rw [← HLK.out]; simp [nthL, nthT, hkl]
    rw [hnl] at hu
    have HOKL := Lib.hid (show ∀ p ∈ l, okP N p from by rw [← HLK.out]; exact trails_ok HG.out hkl)
    have HLM := Lib.hid (show l.length ≤ 240 by
      rw [← HLK.out]
      obtain ⟨s, _, hc⟩ := trails_ch HG.out (nthT_mem hkl)
      exact hc.len HG.out)
    have HNX := Lib.hid (show allF (fun x _ p => setAt x p.1 p.2 1) (trails N) (zeroP N) (k + 1) = stepsF (fun x _ p => setAt x p.1 p.2 1) l us l.length by rw [← HX.out, ← HLK.out]; rfl)
    clear hkl hnl
    have HUE := Lib.hid hu
    have hll := HLM.out
    obtain ⟨z, HZ⟩ : ∃ z, Hid (numsP l = z) := ⟨_, Lib.hid rfl⟩
    rw [HZ.out] at hu HUE
    have HZL := Lib.hid (show z.length = 2 * l.length by rw [← HZ.out]; exact numsP_length l)
    obtain ⟨Au, cu, hvu, hcu, hdu⟩ := hu.dims
    subst hvu
    clear hu
    go_wp2_with fail
    clear qt
    obtain ⟨wo, rfl⟩ : ∃ wo : World, wo = wr := ⟨_, rfl⟩
    go_loopw [7] (fun jv wr => ∃ (j : Nat) (us' : List (List Int)), j ≤ l.length ∧ jv = .int .i64 ((2 * j : Nat) : Int) ∧ Hid (stepsF (fun x _ p => setAt x p.1 p.2 1) l us j = us') ∧ Hid (IntSSx wr W1.heap.size W2.heap.size (.slice Ao N.ends.length co) us') ∧ Hid (Shape N us') ∧ Hid (Turned W1.heap.size W2.heap.size W3 wr)) (fun jv _ => 2 * l.length - (intOf jv).toNat)
    case atStart => exact ⟨0, us, Nat.zero_le _, rfl, Lib.hid rfl, HD, HS, HF⟩
    case round =>
      clear HD HS HF hsk
      obtain ⟨j, us', hj, rfl, HX', HD, HS, HF⟩ := hrel
      have hsj := HF.out.size
      by_cases hjl : j < l.length
      case neg =>
        obtain rfl : j = l.length := by omega
        have hzz : ¬ ((2 * l.length : Nat) : Int) < z.length := by have := HZL.out; omega
        go_wp2_with fail
        go_roundw
        case rel => exact ⟨k + 1, us', by omega, by go_num, Lib.hid (by rw [HNX.out, HX'.out]), HD, HS, HF⟩
        case measure => simp [intOf]; omega
      obtain ⟨⟨pn, pp⟩, HP⟩ : ∃ p, Hid (nthP l j = p) := ⟨_, Lib.hid rfl⟩
      have HPO := Lib.hid (show okP N (pn, pp) by rw [← HP.out]; exact HOKL.out _ (nthP_mem hjl))
      obtain ⟨hpn, hpp⟩ := HPO.out
      dsimp only at hpn hpp
      unfold degAt at hpp
      have hpni : (pn : Int) < N.ends.length := by omega
      have hppi : (pp : Int) < (nthL N.ends pn).length := by omega
      have HNX' := Lib.hid (show stepsF (fun x _ p => setAt x p.1 p.2 1) l us (j + 1) = setAt us' pn pp 1 by rw [stepsF, HX'.out, HP.out])
      obtain ⟨n9, HN9⟩ : ∃ n9, Hid (2 * j = n9) := ⟨_, Lib.hid rfl⟩
      rw [HN9.out]
      have hz9 : n9 + 1 < z.length := by have := HN9.out; have := HZL.out; omega
      obtain ⟨y1, y2⟩ := nth_numsP l j hjl
      rw [HZ.out, HN9.out, HP.out] at y1 y2
      dsimp only at y1 y2
      obtain ⟨bu, ou, hAu, _, hbu, x1, _⟩ := (IntS.turned HUE.out HF.out (by omega) (by omega)).opened (j := n9) (by omega)
      subst hAu
      have x2 := ((IntS.turned HUE.out HF.out (by omega) (by omega)).at_ (j := n9 + 1) hz9).1
      rw [y1] at x1
      rw [y2] at x2
      rw [← Nat.add_assoc] at x2
      have HX1 := Lib.hid x1; have HX2 := Lib.hid x2
      have i0 : (n9 : Int) < z.length := by omega
      have i1 : 0 ≤ (n9 : Int) + 1 ∧ (n9 : Int) + 1 < z.length := by omega
      have w1 : IntKind.i64.wrap ((n9 : Int) + 1) = (n9 : Int) + 1 := by simp [IntKind.wrap, IntKind.bits, IntKind.signed]; omega
      clear x1 x2 y1 y2 hz9
      go_wp2_with fail
      obtain ⟨bd, od, bA, oA, cA, hAA, e1A, e2A, e3A, e4A, xrA, hr1A, hr2A, xeA, xfA, hsetA⟩ := ISSx.place HD.out (by omega) (show pn < us'.length by rw [HS.out.1]; exact hpn) (show pp < (nthL us' pn).length by rw [HS.out.2 pn hpn]; exact hpp)
      subst hAA
      rw [HS.out.2 pn hpn] at xrA hr1A
      have HSETA := Lib.hid hsetA; clear hsetA
      refine wp_region_U (fun w' => w'.cell? ⟨bu, ou + n9, none⟩ = some (.int .i64 (pn : Nat)) ∧ w'.cell? ⟨bu, ou + n9 + 1, none⟩ = some (.int .i64 (pp : Nat)) ∧ w'.cell? ⟨bd, od + pn, none⟩ = some (.slice (some ⟨bA, oA, none⟩) (nthL N.ends pn).length cA)) [13] (by kernel_rfl) ?_
      refine nameU ?_
      intro W21 HW21
      have hg21 : wr.grownBy W21 none := by rw [HW21.out]; exact grown_drew _
      have HGV := Lib.hid hg21
      have hs21 := hg21.size
      have HF21 := Lib.hid (HF.out.still hg21); clear HF
      have DD21 := Lib.hid (ISSx.still HD.out hg21 (by omega)); clear HD
      have hS22 : W21.cell? ⟨bu, ou + n9, none⟩ = some (.int .i64 (pn : Nat)) ∧ W21.cell? ⟨bu, ou + n9 + 1, none⟩ = some (.int .i64 (pp : Nat)) ∧ W21.cell? ⟨bd, od + pn, none⟩ = some (.slice (some ⟨bA, oA, none⟩) (nthL N.ends pn).length cA) := ⟨(HGV.out.cell HX1.out (by simp)), (HGV.out.cell HX2.out (by simp)), (HGV.out.cell xrA (by simp))⟩
      refine anyU_take (i := 0) (v := .slice (some ⟨bd, od, none⟩) N.ends.length co) rfl (by kernel_rfl) (by kernel_rfl) (by kernel_rfl) (fun _ _ _ h => h) ⟨by rfl, fun w' hS' => (by obtain ⟨s1, s2, s3⟩ := hS'; go_simp)⟩ hS22 ?_
      simp only [List.getElem_toArray, List.getElem_cons_zero, Act.put, List.setIfInBounds_toArray, List.set_cons_zero, List.set_cons_succ]
      refine anyU_take (i := 1) (v := .slice (some ⟨bu, ou, none⟩) z.length cu) rfl (by kernel_rfl) (by kernel_rfl) (by kernel_rfl) (fun _ _ _ h => h) ⟨by rfl, fun w' hS' => (by obtain ⟨s1, s2, s3⟩ := hS'; go_simp)⟩ hS22 ?_
      simp only [List.getElem_toArray, List.getElem_cons_succ, List.getElem_cons_zero, Act.put, List.setIfInBounds_toArray, List.set_cons_zero, List.set_cons_succ]
      refine anyU_take (i := 2) (v := .int .i64 (n9 : Nat)) rfl (by kernel_rfl) (by kernel_rfl) (by kernel_rfl) (fun _ _ _ h => h) ⟨by rfl, fun w' hS' => (by obtain ⟨s1, s2, s3⟩ := hS'; go_simp)⟩ hS22 ?_
      simp only [List.getElem_toArray, List.getElem_cons_succ, List.getElem_cons_zero, Act.put, List.setIfInBounds_toArray, List.set_cons_zero, List.set_cons_succ]
      refine anyU_take (i := 3) (v := .pointer (some ⟨bu, ou + n9, none⟩)) rfl (by kernel_rfl) (by kernel_rfl) (by kernel_rfl) (fun _ _ _ h => h) ⟨by rfl, fun w' hS' => (by obtain ⟨s1, s2, s3⟩ := hS'; simp [go_sem, i0])⟩ hS22 ?_
      simp only [List.getElem_toArray, List.getElem_cons_succ, List.getElem_cons_zero, Act.put, List.setIfInBounds_toArray, List.set_cons_zero, List.set_cons_succ]
      refine anyU_take (i := 4) (v := .int .i64 (pn : Nat)) rfl (by kernel_rfl) (by kernel_rfl) (by kernel_rfl) (fun _ _ _ h => h) ⟨by rfl, fun w' hS' => (by obtain ⟨s1, s2, s3⟩ := hS'; go_simp)⟩ hS22 ?_
      simp only [List.getElem_toArray, List.getElem_cons_succ, List.getElem_cons_zero, Act.put, List.setIfInBounds_toArray, List.set_cons_zero, List.set_cons_succ]
      refine anyU_take (i := 5) (v := .pointer (some ⟨bd, od + pn, none⟩)) rfl (by kernel_rfl) (by kernel_rfl) (by kernel_rfl) (fun _ _ _ h => h) ⟨by rfl, fun w' hS' => (by obtain ⟨s1, s2, s3⟩ := hS'; simp [go_sem, hpni])⟩ hS22 ?_
      simp only [List.getElem_toArray, List.getElem_cons_succ, List.getElem_cons_zero, Act.put, List.setIfInBounds_toArray, List.set_cons_zero, List.set_cons_succ]
      refine anyU_take (i := 6) (v := .slice (some ⟨bA, oA, none⟩) (nthL N.ends pn).length cA) rfl (by kernel_rfl) (by kernel_rfl) (by kernel_rfl) (fun _ _ _ h => h) ⟨by rfl, fun w' hS' => (by obtain ⟨s1, s2, s3⟩ := hS'; go_simp)⟩ hS22 ?_
      simp only [List.getElem_toArray, List.getElem_cons_succ, List.getElem_cons_zero, Act.put, List.setIfInBounds_toArray, List.set_cons_zero, List.set_cons_succ]
      refine anyU_take (i := 7) (v := .slice (some ⟨bu, ou, none⟩) z.length cu) rfl (by kernel_rfl) (by kernel_rfl) (by kernel_rfl) (fun _ _ _ h => h) ⟨by rfl, fun w' hS' => (by obtain ⟨s1, s2, s3⟩ := hS'; go_simp)⟩ hS22 ?_
      simp only [List.getElem_toArray, List.getElem_cons_succ, List.getElem_cons_zero, Act.put, List.setIfInBounds_toArray, List.set_cons_zero, List.set_cons_succ]
      refine anyU_take (i := 8) (v := .int .i64 (n9 : Nat)) rfl (by kernel_rfl) (by kernel_rfl) (by kernel_rfl) (fun _ _ _ h => h) ⟨by rfl, fun w' hS' => (by obtain ⟨s1, s2, s3⟩ := hS'; go_simp)⟩ hS22 ?_
      simp only [List.getElem_toArray, List.getElem_cons_succ, List.getElem_cons_zero, Act.put, List.setIfInBounds_toArray, List.set_cons_zero, List.set_cons_succ]
      refine anyU_take (i := 9) (v := .int .i64 ((n9 : Int) + 1)) rfl (by kernel_rfl) (by kernel_rfl) (by kernel_rfl) (fun _ _ _ h => h) ⟨by rfl, fun w' hS' => (by obtain ⟨s1, s2, s3⟩ := hS'; simp [go_sem, w1])⟩ hS22 ?_
      simp only [List.getElem_toArray, List.getElem_cons_succ, List.getElem_cons_zero, Act.put, List.setIfInBounds_toArray, List.set_cons_zero, List.set_cons_succ]
      refine anyU_take (i := 10) (v := .pointer (some ⟨bu, ou + n9 + 1, none⟩)) rfl (by kernel_rfl) (by kernel_rfl) (by kernel_rfl) (fun _ _ _ h => h) ⟨by rfl, fun w' hS' => (by obtain ⟨s1, s2, s3⟩ := hS'; simp [go_sem, i1, Nat.add_assoc])⟩ hS22 ?_
      simp only [List.getElem_toArray, List.getElem_cons_succ, List.getElem_cons_zero, Act.put, List.setIfInBounds_toArray, List.set_cons_zero, List.set_cons_succ]
      refine anyU_take (i := 11) (v := .int .i64 (pp : Nat)) rfl (by kernel_rfl) (by kernel_rfl) (by kernel_rfl) (fun _ _ _ h => h) ⟨by rfl, fun w' hS' => (by obtain ⟨s1, s2, s3⟩ := hS'; go_simp)⟩ hS22 ?_
      simp only [List.getElem_toArray, List.getElem_cons_succ, List.getElem_cons_zero, Act.put, List.setIfInBounds_toArray, List.set_cons_zero, List.set_cons_succ]
      refine anyU_take (i := 12) (v := .pointer (some ⟨bA, oA + pp, none⟩)) rfl (by kernel_rfl) (by kernel_rfl) (by kernel_rfl) (fun _ _ _ h => h) ⟨by rfl, fun w' hS' => (by obtain ⟨s1, s2, s3⟩ := hS'; simp [go_sem, hppi])⟩ hS22 ?_
      simp only [List.getElem_toArray, List.getElem_cons_succ, List.getElem_cons_zero, Act.put, List.setIfInBounds_toArray, List.set_cons_zero, List.set_cons_succ]
      have z1 := HGV.out.cell xeA (by simp)
      have z2 := (World.frozen?_of_block (a := ⟨bA, oA + pp, none⟩) (HGV.out.block bA (by omega) (by simp))).trans xfA
      refine anyU_ready (rs := [13]) (by kernel_rfl) (by simp) ?_
      refine ReadyU.cons (i := 13) rfl (fun K hK => ?_) ReadyU.nil
      simp only [List.getElem_toArray, List.getElem_cons_succ, List.getElem_cons_zero]
      refine ite_is (by rfl) ?_
      simp [go_sem, z1, z2]
      refine hK.out _ _ ⟨fun h => absurd h (by decide), ?_⟩
      clear hK K
      try simp only [List.getElem_toArray, List.getElem_cons_succ, List.getElem_cons_zero, Act.put, List.setIfInBounds_toArray, List.set_cons_zero, List.set_cons_succ]
      refine nameU ?_
      intro W23 HW23
      have hg23 : W21.grownBy W23 (some bA) := by rw [HW23.out]; exact grown_set _ ⟨bA, oA + pp, none⟩ _
      have HDN := Lib.hid (show IntSSx W23 W1.heap.size W2.heap.size (.slice (some ⟨bd, od, none⟩) N.ends.length co) (setAt us' pn pp 1) by rw [HW23.out, HW21.out]; exact HSETA.out 1)
      clear HW23 HW21 z1 z2 hS22 DD21
      have hs23 := hg23.size
      have HF23 := Lib.hid (HF21.out.grown hg23 (fun g hg => by cases hg; omega)); clear HF21
      refine anyU_done (by kernel_rfl) ?_ _
      go_wp2_with fail
      go_roundw
      case rel => exact ⟨j + 1, _, by omega, by rw [show 2 * (j + 1) = n9 + 2 by have := HN9.out; omega]; go_num, HNX', HDN, Lib.hid (HS.out.setAt hpn _ _), HF23⟩
      case measure => simp [intOf]; have := HN9.out; omega

end Go.Proofs.YtpanigomfmfknaaGreat
