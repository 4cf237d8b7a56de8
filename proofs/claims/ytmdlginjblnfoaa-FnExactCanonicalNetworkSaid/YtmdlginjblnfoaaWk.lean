/-
  Contracts: the walk from a node and its code (reference).
-/
import Derived.Test.YtmdlginjblnfoaaWkP
import Derived.Test.YtmdlginjblnfoaaDistS
import Derived.Test.YtmdlginjblnfoaaFrame
import Derived.Test.YtmdlginjblnfoaaReg
import Derived.Test.YtmdlginjblnfoaaBasics
import Derived.Deep.AppendLies
namespace Go.Proofs.Ytmdlginjblnfoaa
open Go.ChangeShapes Go.WideShapes Go.ChangeAt Go.RowKit
set_option linter.unusedVariables false

theorem OwnI.one (w : World) (base : Nat) (e : TypeId) (x : Int) {g : Nat} (hg : w.heap.size = g) (hb : base ≤ g) : OwnI (w.alloc (.cells #[.int .i64 x] e)) base e (.slice (some ⟨g, 0, none⟩) 1 1) [x] := by
  subst hg
  refine ⟨by simp, .inr ⟨w.heap.size, 1, #[.int .i64 x], by simp, hb, heap_alloc_new w _, Nat.le_refl _, by unfold maxLen; omega, rfl, rfl⟩⟩

set_option maxHeartbeats 4000000 in
set_option maxRecDepth 100000 in
theorem isWalk_any (v1 : Value) (N : NetD) (lo1 hi1 : Nat) (v : Nat) (w : World) (h1 : Net w lo1 hi1 v1 N) (hh1 : hi1 ≤ w.heap.size) (hg : N.good = true) (hv : v < N.ends.length) :
    Calls Try.prog 48 #[v1, .int .i64 (v : Nat)] w fun e w' => ∃ r, e = .returned (r) ∧ IntS w' w.heap.size w'.heap.size r (walkN N v) ∧ Below w.heap.size w w' := by
  obtain ⟨n1, n40⟩ := good_n hg
  have HG := Lib.hid hg; clear hg
  have HNO := Lib.hid (good_nodes HG.out)
  have F1 := Lib.hid h1
  obtain ⟨A1, c1, A1', c1', A1'', c1'', rfl, hc1, hd1, _⟩ := h1.parts
  obtain ⟨b1, o1, _, _, rfl, _⟩ := Net.rowAt F1.out (u := 0) (by omega)
  clear h1
  obtain ⟨WA, HWA⟩ : ∃ W, Hid (W = (w.alloc (.cells #[.slice (some ⟨b1, o1, none⟩) N.ends.length c1, .slice A1' N.ids.length c1', .slice A1'' N.inputs.length c1''] 31))) := ⟨_, Lib.hid rfl⟩
  have hbA : Below w.heap.size w WA := by rw [HWA.out]; exact ((Below.refl _ _).alloc (Nat.le_refl _) _)
  have hsA : w.heap.size + 1 ≤ WA.heap.size := by rw [HWA.out]; simp; try omega
  have bx1 : BoxN WA (w.heap.size) #[.slice (some ⟨b1, o1, none⟩) N.ends.length c1, .slice A1' N.ids.length c1', .slice A1'' N.inputs.length c1''] 31 := by rw [HWA.out]; exact (BoxN.new' _ _ _ (by simp))
  have G1 := Lib.hid (Net.below F1.out hbA hh1); clear F1
  go_enter Try.func48, Try.ntmps48
  go_upto_region 1 with (fail)
  rw [← HWA.out]; clear HWA
  go_upto_region 2 with (fail)
  refine nameC ?_
  intro W1 HW1
  have hg1 : WA.grownBy W1 none := by rw [HW1.out]; exact grown_alloc _ _
  have hs1 := hg1.size
  have HF1 := Lib.hid ((Turned.refl WA.heap.size WA.heap.size WA).still hg1)
  have HO := Lib.hid (show OwnI W1 WA.heap.size 3 (.slice (some ⟨WA.heap.size, 0, none⟩) 1 1) [(v : Int)] by rw [HW1.out]; exact OwnI.one _ _ _ _ rfl (Nat.le_refl _))
  clear HW1
  go_wp2_with fail
  go_loopw [6, 5] (fun kv ov wr => ∃ (k : Nat) (out : List Int), kv = .int .i64 k ∧ Hid (OwnI wr WA.heap.size 3 ov out) ∧ Hid (WkTop N v k out) ∧ WA.heap.size ≤ wr.heap.size ∧ Hid (Turned WA.heap.size WA.heap.size WA wr)) (fun kv ov _ => N.ends.length + 1 - (intOf kv).toNat)
  case atStart => exact ⟨0, [(v : Int)], rfl, HO, Lib.hid (WkTop.start hv), by omega, HF1⟩
  case round =>
    clear HF1
    obtain ⟨k, out, rfl, HO, HI, hz, HF2⟩ := hrel
    have hs2 := HF2.out.size
    have hkl := HI.out.le
    have hll := HI.out.ok.len
    obtain ⟨Az, cz, rfl, hcz, hdz⟩ := HO.out.ints.dims
    by_cases hlt : k < out.length
    case neg =>
      obtain rfl : k = out.length := by omega
      have HST := Lib.hid HI.out.stop
      go_wp2_with fail
      go_ret
      refine ⟨_, rfl, ?_, (HF2.out.below_of hbA (by omega) (by omega))⟩
      rw [HST.out]
      exact HO.out.ints.mono (by omega) (Nat.le_refl _)
    obtain ⟨u, eu, hu⟩ := HI.out.ok.at_ hlt
    have HEU := Lib.hid eu
    obtain ⟨bz, oz, rfl, _, hbz, _, _⟩ := IntS.opened HO.out.ints (j := k) hlt
    clear eu
    have hki : (k : Int) < out.length := by omega
    have hd6 := good_deg HG.out hu
    have hlv := HO.out.lt
    have hlv2 := Lib.hid (fun g hg => (HO.out.lt g hg).2)
    go_wp2_with fail
    refine wp_region_U (fun w' => w'.cell? ⟨w.heap.size, 0, none⟩ = some (.slice (some ⟨b1, o1, none⟩) N.ends.length c1) ∧ w'.cell? ⟨w.heap.size, 1, none⟩ = some (.slice A1' N.ids.length c1') ∧ w'.cell? ⟨w.heap.size, 2, none⟩ = some (.slice A1'' N.inputs.length c1'') ∧ w'.cell? ⟨bz, oz + k, none⟩ = some (.int .i64 u)) [] (by kernel_rfl) ?_
    refine nameU ?_
    intro W3 HW3
    have hg3 : wr.grownBy W3 none := by rw [HW3.out]; exact grown_drew _
    clear HW3
    have hs3 := hg3.size
    have HF3 := Lib.hid (HF2.out.still hg3); clear HF2
    have O3 := Lib.hid (OwnI.still HO.out hg3); clear HO
    have hS4 : W3.cell? ⟨w.heap.size, 0, none⟩ = some (.slice (some ⟨b1, o1, none⟩) N.ends.length c1) ∧ W3.cell? ⟨w.heap.size, 1, none⟩ = some (.slice A1' N.ids.length c1') ∧ W3.cell? ⟨w.heap.size, 2, none⟩ = some (.slice A1'' N.inputs.length c1'') ∧ W3.cell? ⟨bz, oz + k, none⟩ = some (.int .i64 u) := ⟨(HF3.out.boxN bx1 (by omega)).cell 0 (by simp), (HF3.out.boxN bx1 (by omega)).cell 1 (by simp), (HF3.out.boxN bx1 (by omega)).cell 2 (by simp), (by have := (IntS.at_ O3.out.ints (j := k) hlt).1; rw [HEU.out] at this; exact this)⟩
    refine anyU_take (i := 0) (v := .agg #[.slice (some ⟨b1, o1, none⟩) N.ends.length c1, .slice A1' N.ids.length c1', .slice A1'' N.inputs.length c1'']) rfl (by kernel_rfl) (by kernel_rfl) (by kernel_rfl) (fun _ _ _ h => h) ⟨by rfl, fun w' hS' => (by obtain ⟨s1, s2, s3, s4⟩ := hS'; go_simp)⟩ hS4 ?_
    simp only [List.getElem_toArray, List.getElem_cons_zero, Act.put, List.setIfInBounds_toArray, List.set_cons_zero, List.set_cons_succ]
    refine anyU_take (i := 1) (v := .slice (some ⟨bz, oz, none⟩) out.length cz) rfl (by kernel_rfl) (by kernel_rfl) (by kernel_rfl) (fun _ _ _ h => h) ⟨by rfl, fun w' hS' => (by obtain ⟨s1, s2, s3, s4⟩ := hS'; go_simp)⟩ hS4 ?_
    simp only [List.getElem_toArray, List.getElem_cons_succ, List.getElem_cons_zero, Act.put, List.setIfInBounds_toArray, List.set_cons_zero, List.set_cons_succ]
    refine anyU_take (i := 2) (v := .int .i64 k) rfl (by kernel_rfl) (by kernel_rfl) (by kernel_rfl) (fun _ _ _ h => h) ⟨by rfl, fun w' hS' => (by obtain ⟨s1, s2, s3, s4⟩ := hS'; go_simp)⟩ hS4 ?_
    simp only [List.getElem_toArray, List.getElem_cons_succ, List.getElem_cons_zero, Act.put, List.setIfInBounds_toArray, List.set_cons_zero, List.set_cons_succ]
    refine anyU_take (i := 3) (v := .pointer (some ⟨bz, oz + k, none⟩)) rfl (by kernel_rfl) (by kernel_rfl) (by kernel_rfl) (fun _ _ _ h => h) ⟨by rfl, fun w' hS' => (by obtain ⟨s1, s2, s3, s4⟩ := hS'; simp [go_sem, hki])⟩ hS4 ?_
    simp only [List.getElem_toArray, List.getElem_cons_succ, List.getElem_cons_zero, Act.put, List.setIfInBounds_toArray, List.set_cons_zero, List.set_cons_succ]
    refine anyU_take (i := 4) (v := .int .i64 u) rfl (by kernel_rfl) (by kernel_rfl) (by kernel_rfl) (fun _ _ _ h => h) ⟨by rfl, fun w' hS' => (by obtain ⟨s1, s2, s3, s4⟩ := hS'; go_simp)⟩ hS4 ?_
    simp only [List.getElem_toArray, List.getElem_cons_succ, List.getElem_cons_zero, Act.put, List.setIfInBounds_toArray, List.set_cons_zero, List.set_cons_succ]
    refine anyU_take (i := 7) (v := .int .i64 0) rfl (by kernel_rfl) (by kernel_rfl) (by kernel_rfl) (fun _ _ _ h => h) ⟨by rfl, fun w' hS' => (by obtain ⟨s1, s2, s3, s4⟩ := hS'; go_simp)⟩ hS4 ?_
    simp only [List.getElem_toArray, List.getElem_cons_succ, List.getElem_cons_zero, Act.put, List.setIfInBounds_toArray, List.set_cons_zero, List.set_cons_succ]
    refine anyU_ready (rs := [5]) (by kernel_rfl) (by simp) ?_
    refine ReadyU.cons (i := 5) rfl (fun K hK => ?_) ReadyU.nil
    simp only [List.getElem_toArray, List.getElem_cons_succ, List.getElem_cons_zero]
    refine ite_is (by rfl) ?_
    simp [go_sem]
    refine (neNear_any _ N u lo1 hi1 _ (Net.turned G1.out HF3.out (by omega) (by omega)) (by omega) hu (by omega)).mono ?_
    rintro e W5 ⟨r, rfl, hr, hb5⟩
    have hg5 := grown_below hb5; clear hb5
    have hs5 := hg5.size
    have HF5 := Lib.hid (HF3.out.still hg5); clear HF3
    have O5 := Lib.hid (OwnI.still O3.out hg5); clear O3
    have R5 := Lib.hid hr; clear hr
    have hS6 : W5.cell? ⟨w.heap.size, 0, none⟩ = some (.slice (some ⟨b1, o1, none⟩) N.ends.length c1) ∧ W5.cell? ⟨w.heap.size, 1, none⟩ = some (.slice A1' N.ids.length c1') ∧ W5.cell? ⟨w.heap.size, 2, none⟩ = some (.slice A1'' N.inputs.length c1'') ∧ W5.cell? ⟨bz, oz + k, none⟩ = some (.int .i64 u) := ⟨(HF5.out.boxN bx1 (by omega)).cell 0 (by simp), (HF5.out.boxN bx1 (by omega)).cell 1 (by simp), (HF5.out.boxN bx1 (by omega)).cell 2 (by simp), (by have := (IntS.at_ O5.out.ints (j := k) hlt).1; rw [HEU.out] at this; exact this)⟩
    refine hK.out _ _ ⟨fun _ => hS6, ?_⟩
    clear hK K hS4
    try simp only [List.getElem_toArray, List.getElem_cons_succ, List.getElem_cons_zero, Act.put, List.setIfInBounds_toArray, List.set_cons_zero, List.set_cons_succ]
    obtain ⟨Ar, cr, rfl, hcr, hdr⟩ := R5.out.dims
    rw [nbs_length] at hcr
    try rw [nbs_length]
    refine anyU_ready (rs := [6]) (by kernel_rfl) (by simp) ?_
    refine ReadyU.cons (i := 6) rfl (fun K hK => ?_) ReadyU.nil
    simp only [List.getElem_toArray, List.getElem_cons_succ, List.getElem_cons_zero]
    refine ite_is (by rfl) ?_
    simp [go_sem]
    refine hK.out _ _ ⟨fun _ => hS6, ?_⟩
    clear hK K
    try simp only [List.getElem_toArray, List.getElem_cons_succ, List.getElem_cons_zero, Act.put, List.setIfInBounds_toArray, List.set_cons_zero, List.set_cons_succ]
    clear hS6
    refine anyU_done (by kernel_rfl) ?_ _
    try simp only [nbs_length]
    go_wp2_with fail
    go_loopw [24, 5] (fun iv ov wr => ∃ (m : Nat) (out' : List Int), m ≤ (nthL N.ends u).length ∧ iv = .int .i64 m ∧ Hid (OwnI wr WA.heap.size 3 ov out') ∧ Hid (out' = wkRow N out u m) ∧ Hid (IntS wr W3.heap.size W5.heap.size (.slice Ar (nthL N.ends u).length cr) (nbs N u)) ∧ Hid (∀ g, ov.ownBlock = some g → g < W3.heap.size ∨ W5.heap.size ≤ g) ∧ W5.heap.size ≤ wr.heap.size ∧ Hid (Turned WA.heap.size WA.heap.size WA wr)) (fun iv ov _ => (nthL N.ends u).length - (intOf iv).toNat)
    case atStart => exact ⟨0, out, Nat.zero_le _, rfl, O5, Lib.hid rfl, Lib.hid (by have := R5.out; first | exact this | (rw [nbs_length] at this; exact this)), Lib.hid fun g hg => .inl (by have := hlv2.out g hg; omega), Nat.le_refl _, HF5⟩
    case round =>
      clear HF5
      obtain ⟨m, out', hm, rfl, HO, HM, HRF, HAP, hz2, HF7⟩ := hrel
      have hs7 := HF7.out.size
      have hnl := nbs_length N u
      have HOK := Lib.hid (show WkOk N out' by rw [HM.out]; exact HI.out.ok.row HNO.out hu m (by rw [hnl]; exact hm))
      have hlo := HOK.out.len
      have hlv3 := HO.out.lt
      have HNL := Lib.hid hnl; clear hnl
      by_cases hml : m < (nthL N.ends u).length
      case neg =>
        obtain rfl : m = (nthL N.ends u).length := by omega
        have HIN := Lib.hid (show WkTop N v (k + 1) out' by rw [HM.out, ← HNL.out]; exact HI.out.next HNO.out hlt HEU.out hu)
        go_wp2_with fail
        go_roundw
        case rel => exact ⟨k + 1, out', by go_num, HO, HIN, by omega, HF7⟩
        case measure => simp [intOf]; omega
      obtain ⟨t, rr, et, ht, hr2, _⟩ := good_end HG.out hu hml
      obtain ⟨b3, o3, rfl, _, _, x3, _⟩ := IntS.opened HRF.out (j := m) (by rw [HNL.out]; exact hml)
      rw [nth_nbs N u hml, et] at x3
      dsimp only at x3
      have HSC := Lib.hid (show wkRow N out u (m + 1) = wkStep out' (t : Int) by rw [wkRow_succ _ _ _ (by rw [HNL.out]; exact hml), ← HM.out, nth_nbs N u hml, et])
      clear et
      obtain ⟨Ay, cy, rfl, hcy, hdy⟩ := HO.out.ints.dims
      cases hmm : decide ((t : Int) ∈ out') with
      | true =>
        have HMM := Lib.hid hmm; clear hmm
        have HSE := Lib.hid (show out' = wkRow N out u (m + 1) by rw [HSC.out]; unfold wkStep; rw [if_pos (of_decide_eq_true HMM.out)])
        go_wp2_with (go_at_call 47; refine (l1Has_any _ out' _ _ _ _ HO.out.ints).mono ?_; rintro e w' ⟨rfl, rfl⟩; rw [HMM.out])
        go_roundw
        case rel => exact ⟨m + 1, out', by omega, by go_num, HO, HSE, HRF, HAP, by omega, HF7⟩
        case measure => simp [intOf]; omega
      | false =>
        have HMM := Lib.hid hmm; clear hmm
        have HSE := Lib.hid (show out' ++ [(t : Int)] = wkRow N out u (m + 1) by rw [HSC.out]; unfold wkStep; rw [if_neg (of_decide_eq_false HMM.out)])
        go_wp2_with (first | (go_at_call 47; refine (l1Has_any _ out' _ _ _ _ HO.out.ints).mono ?_; rintro e w' ⟨rfl, rfl⟩; rw [HMM.out]) | (at_builtin; refine append_int (s := .tmp 32) Try.underlying23 Try.info3 (by decide) wr rfl _ rfl HO.out t _ rfl (by simp [Act.eval, go_sem]) (by omega) (by omega) ?_; intro v' w' ho' hg' hat'))
        go_roundw
        case rel =>
          have hgs := hg'.size
          refine ⟨m + 1, _, by omega, by go_num, Lib.hid ho', HSE, Lib.hid (IntS.far HRF.out hg' (by omega) HAP.out), Lib.hid fun g hg => ?_, by omega, Lib.hid (HF7.out.grown hg' fun g hg => .inr (hlv3 g hg).1)⟩
          rcases hat' with e | e
          · rw [e] at hg; exact HAP.out g hg
          · rw [e] at hg; injection hg with hg; right; omega
        case measure => simp [intOf]; omega

end Go.Proofs.Ytmdlginjblnfoaa
