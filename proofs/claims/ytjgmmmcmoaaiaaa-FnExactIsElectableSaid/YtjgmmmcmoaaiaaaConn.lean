/-
  Contracts: is a network connected (program and reference).
-/
import Derived.Test.YtjgmmmcmoaaiaaaConnP
import Derived.Test.YtjgmmmcmoaaiaaaReg
import Derived.Test.YtjgmmmcmoaaiaaaExt
import Derived.Test.YtjgmmmcmoaaiaaaIsNet
import Derived.Test.YtjgmmmcmoaaiaaaPut
import Derived.Test.YtjgmmmcmoaaiaaaDistI
import Derived.Test.YtjgmmmcmoaaiaaaNearP
namespace Go.Proofs.Ytjgmmmcmoaaiaaa
open Go.ChangeShapes Go.WideShapes Go.ChangeAt Go.RowKit
set_option linter.unusedVariables false

theorem OwnI.one (w : World) (base : Nat) (e : TypeId) (x : Int) {g : Nat} (hg : w.heap.size = g) (hb : base ≤ g) : OwnI (w.alloc (.cells #[.int .i64 x] e)) base e (.slice (some ⟨g, 0, none⟩) 1 1) [x] := by
  subst hg
  refine ⟨by simp, .inr ⟨w.heap.size, 1, #[.int .i64 x], by simp, hb, heap_alloc_new w _, Nat.le_refl _, by unfold maxLen; omega, rfl, rfl⟩⟩
section
variable {P : Program} {md : Region.Mode} {ops : Array Oper} {Q : Exit → Act → World → Prop} {S : World → Prop} {T : List Nat}
theorem anyU_skip {i : Nat} {oi : Oper} {fuel : Nat} {listed : Array Bool} {a : Act} {w : World} (hi : ops[i]? = some oi)
    (hs : (Region.noSelect ops && waitsB md ops T listed i) = true) (hf : (Region.free md ops listed i && closedB md ops listed) = true) (hr : (Region.ready md ops listed).contains i = true)
    (hQ : ∀ c a w, Q (.panic c) (a.put oi.dst undef) w → Q (.panic c) a w) (hy : Region.wanted oi (yielded ops a.tmps) = false) (hS : S w)
    (h : anyU P md ops Q S T fuel (listed.setIfInBounds i true) (a.put oi.dst undef) w) : anyU P md ops Q S T (fuel + 1) listed a w := by
  rw [Bool.and_eq_true] at hs hf
  exact anyU_first hi (Region.noSelect_spec hs.1) hQ fuel listed a w (Region.free_spec hi hf.1) (closedB_is hf.2) hs.2 (by simpa using hr) (.inr ⟨hy, rfl⟩) hS h
end

set_option maxHeartbeats 1000000 in
set_option maxRecDepth 100000 in
theorem isConnected_any (v1 : Value) (N : NetD) (lo1 hi1 : Nat) (w : World) (h1 : Net w lo1 hi1 v1 N) (hh1 : hi1 ≤ w.heap.size) (hg : N.good = true) :
    Calls Try.prog 18 #[v1] w fun e w' => e = .returned (.bool (conn N)) ∧ Below w.heap.size w w' := by
  obtain ⟨n1, n40⟩ := good_n hg
  have HG := Lib.hid hg; clear hg
  have F1 := Lib.hid h1
  obtain ⟨A1, c1, A1', c1', A1'', c1'', rfl, hc1, hd1, _⟩ := h1.parts
  clear h1
  obtain ⟨WA, HWA⟩ : ∃ W, Hid (W = (w.alloc (.cells #[.slice A1 N.ends.length c1, .slice A1' N.ids.length c1', .slice A1'' N.inputs.length c1''] 31))) := ⟨_, Lib.hid rfl⟩
  have hbA : Below w.heap.size w WA := by rw [HWA.out]; exact ((Below.refl _ _).alloc (Nat.le_refl _) _)
  have hsA : w.heap.size + 1 ≤ WA.heap.size := by rw [HWA.out]; simp; try omega
  have bx1 : BoxN WA (w.heap.size) #[.slice A1 N.ends.length c1, .slice A1' N.ids.length c1', .slice A1'' N.inputs.length c1''] 31 := by rw [HWA.out]; exact (BoxN.new' _ _ _ (by simp))
  have G1 := Lib.hid (Net.below F1.out hbA hh1); clear F1
  go_enter Try.func18, Try.ntmps18
  go_upto_region 1 with (fail)
  rw [← HWA.out]; clear HWA
  have kbx1_0 : WA.cell? ⟨w.heap.size, 0, none⟩ = some (.slice A1 N.ends.length c1) := bx1.cell 0 (by simp)
  have kbx1_1 : WA.cell? ⟨w.heap.size, 1, none⟩ = some (.slice A1' N.ids.length c1') := bx1.cell 1 (by simp)
  have kbx1_2 : WA.cell? ⟨w.heap.size, 2, none⟩ = some (.slice A1'' N.inputs.length c1'') := bx1.cell 2 (by simp)
  go_wp2_with fail
  clear kbx1_0 kbx1_1 kbx1_2
  refine (distancesFrom_any _ N 0 lo1 hi1 _ G1.out (by omega) (by omega) (by omega) (good_nodes HG.out) (fun u hu => by have := good_deg HG.out hu; omega)).mono ?_
  rintro e W1 ⟨r, rfl, hr, hb1⟩
  have hg1 := grown_below hb1; clear hb1
  have hs1 := hg1.size
  have HF1 := Lib.hid ((Turned.refl WA.heap.size WA.heap.size WA).still hg1)
  have R1 := Lib.hid hr; clear hr
  obtain ⟨Ar, cr, rfl, hcr, hdr⟩ := R1.out.dims
  go_wp2_with (go_at_call 36; refine (contains_any _ (dist N 0) _ _ _ _ R1.out).mono ?_; rintro e w' ⟨rfl, rfl⟩)
  go_ret
  exact ⟨ret_bool rfl, (HF1.out.below_of hbA (by omega) (by omega))⟩

set_option maxHeartbeats 1000000 in
set_option maxRecDepth 100000 in
theorem coReach_any (v1 : Value) (N : NetD) (lo1 hi1 : Nat) (z : Int) (w : World) (h1 : Net w lo1 hi1 v1 N) (hh1 : hi1 ≤ w.heap.size) (hg : N.good = true) (hz : z = 0) :
    Calls Try.prog 27 #[v1, .int .i64 z] w fun e w' => ∃ r out, e = .returned r ∧ IntS w' w.heap.size w'.heap.size r out ∧ CoInv N out.length out ∧ Below w.heap.size w w' := by
  subst hz
  obtain ⟨n1, n40⟩ := good_n hg
  have HG := Lib.hid hg; clear hg
  have F1 := Lib.hid h1
  obtain ⟨A1, c1, A1', c1', A1'', c1'', rfl, hc1, hd1, _⟩ := h1.parts
  obtain ⟨b1, o1, _, _, rfl, _⟩ := Net.rowAt F1.out (u := 0) (by omega)
  clear h1
  obtain ⟨WA, HWA⟩ : ∃ W, Hid (W = (w.alloc (.cells #[.slice (some ⟨b1, o1, none⟩) N.ends.length c1, .slice A1' N.ids.length c1', .slice A1'' N.inputs.length c1''] 31))) := ⟨_, Lib.hid rfl⟩
  have hbA : Below w.heap.size w WA := by rw [HWA.out]; exact ((Below.refl _ _).alloc (Nat.le_refl _) _)
  have hsA : w.heap.size + 1 ≤ WA.heap.size := by rw [HWA.out]; simp; try omega
  have bx1 : BoxN WA (w.heap.size) #[.slice (some ⟨b1, o1, none⟩) N.ends.length c1, .slice A1' N.ids.length c1', .slice A1'' N.inputs.length c1''] 31 := by rw [HWA.out]; exact (BoxN.new' _ _ _ (by simp))
  have G1 := Lib.hid (Net.below F1.out hbA hh1); clear F1
  go_enter Try.func27, Try.ntmps27
  go_upto_region 1 with (fail)
  rw [← HWA.out]; clear HWA
  go_upto_region 2 with (fail)
  refine nameC ?_
  intro W1 HW1
  have hg1 : WA.grownBy W1 none := by rw [HW1.out]; exact grown_alloc _ _
  have hs1 := hg1.size
  have HF1 := Lib.hid ((Turned.refl WA.heap.size WA.heap.size WA).still hg1)
  have HO := Lib.hid (show OwnI W1 WA.heap.size 3 (.slice (some ⟨WA.heap.size, 0, none⟩) 1 1) [(0 : Int)] by rw [HW1.out]; exact OwnI.one _ _ _ _ rfl (Nat.le_refl _))
  clear HW1
  go_wp2_with fail
  go_loopw [6, 5] (fun kv ov wr => ∃ (k : Nat) (out : List Int), kv = .int .i64 k ∧ Hid (OwnI wr WA.heap.size 3 ov out) ∧ Hid (CoInv N k out) ∧ WA.heap.size ≤ wr.heap.size ∧ Hid (Turned WA.heap.size WA.heap.size WA wr)) (fun kv ov _ => N.ends.length + 1 - (intOf kv).toNat)
  case atStart => exact ⟨0, [(0 : Int)], rfl, HO, Lib.hid (CoInv.start HG.out), by omega, HF1⟩
  case round =>
    clear HF1
    obtain ⟨k, out, rfl, HO, HI, hz, HF2⟩ := hrel
    have hs2 := HF2.out.size
    have hkl := HI.out.kle
    have hll := HI.out.len
    obtain ⟨Az, cz, rfl, hcz, hdz⟩ := HO.out.ints.dims
    by_cases hlt : k < out.length
    case neg =>
      obtain rfl : k = out.length := by omega
      go_wp2_with fail
      go_ret
      exact ⟨_, out, rfl, HO.out.ints.mono (by omega) (Nat.le_refl _), HI.out, (HF2.out.below_of hbA (by omega) (by omega))⟩
    obtain ⟨v, ev, hv, hr0⟩ := HI.out.at_ hlt
    have HEV := Lib.hid ev
    have HR0 := Lib.hid hr0
    obtain ⟨bz, oz, rfl, _, hbz, _, _⟩ := IntS.opened HO.out.ints (j := k) hlt
    clear ev hr0
    have hki : (k : Int) < out.length := by omega
    have hd6 := good_deg HG.out hv
    have hlv := HO.out.lt
    have hlv2 := Lib.hid (fun g hg => (HO.out.lt g hg).2)
    go_wp2_with fail
    refine wp_region_U (fun w' => w'.cell? ⟨w.heap.size, 0, none⟩ = some (.slice (some ⟨b1, o1, none⟩) N.ends.length c1) ∧ w'.cell? ⟨w.heap.size, 1, none⟩ = some (.slice A1' N.ids.length c1') ∧ w'.cell? ⟨w.heap.size, 2, none⟩ = some (.slice A1'' N.inputs.length c1'') ∧ w'.cell? ⟨bz, oz + k, none⟩ = some (.int .i64 v)) [] (by kernel_rfl) ?_
    refine nameU ?_
    intro W3 HW3
    have hg3 : wr.grownBy W3 none := by rw [HW3.out]; exact grown_drew _
    clear HW3
    have hs3 := hg3.size
    have HF3 := Lib.hid (HF2.out.still hg3); clear HF2
    have O3 := Lib.hid (OwnI.still HO.out hg3); clear HO
    have hS4 : W3.cell? ⟨w.heap.size, 0, none⟩ = some (.slice (some ⟨b1, o1, none⟩) N.ends.length c1) ∧ W3.cell? ⟨w.heap.size, 1, none⟩ = some (.slice A1' N.ids.length c1') ∧ W3.cell? ⟨w.heap.size, 2, none⟩ = some (.slice A1'' N.inputs.length c1'') ∧ W3.cell? ⟨bz, oz + k, none⟩ = some (.int .i64 v) := ⟨(HF3.out.boxN bx1 (by omega)).cell 0 (by simp), (HF3.out.boxN bx1 (by omega)).cell 1 (by simp), (HF3.out.boxN bx1 (by omega)).cell 2 (by simp), (by have := (IntS.at_ O3.out.ints (j := k) hlt).1; rw [HEV.out] at this; exact this)⟩
    refine anyU_take (i := 0) (v := .agg #[.slice (some ⟨b1, o1, none⟩) N.ends.length c1, .slice A1' N.ids.length c1', .slice A1'' N.inputs.length c1'']) rfl (by kernel_rfl) (by kernel_rfl) (by kernel_rfl) (fun _ _ _ h => h) ⟨by rfl, fun w' hS' => (by obtain ⟨s1, s2, s3, s4⟩ := hS'; go_simp)⟩ hS4 ?_
    simp only [List.getElem_toArray, List.getElem_cons_zero, Act.put, List.setIfInBounds_toArray, List.set_cons_zero, List.set_cons_succ]
    refine anyU_take (i := 1) (v := .slice (some ⟨bz, oz, none⟩) out.length cz) rfl (by kernel_rfl) (by kernel_rfl) (by kernel_rfl) (fun _ _ _ h => h) ⟨by rfl, fun w' hS' => (by obtain ⟨s1, s2, s3, s4⟩ := hS'; go_simp)⟩ hS4 ?_
    simp only [List.getElem_toArray, List.getElem_cons_succ, List.getElem_cons_zero, Act.put, List.setIfInBounds_toArray, List.set_cons_zero, List.set_cons_succ]
    refine anyU_take (i := 2) (v := .int .i64 k) rfl (by kernel_rfl) (by kernel_rfl) (by kernel_rfl) (fun _ _ _ h => h) ⟨by rfl, fun w' hS' => (by obtain ⟨s1, s2, s3, s4⟩ := hS'; go_simp)⟩ hS4 ?_
    simp only [List.getElem_toArray, List.getElem_cons_succ, List.getElem_cons_zero, Act.put, List.setIfInBounds_toArray, List.set_cons_zero, List.set_cons_succ]
    refine anyU_take (i := 3) (v := .pointer (some ⟨bz, oz + k, none⟩)) rfl (by kernel_rfl) (by kernel_rfl) (by kernel_rfl) (fun _ _ _ h => h) ⟨by rfl, fun w' hS' => (by obtain ⟨s1, s2, s3, s4⟩ := hS'; simp [go_sem, hki])⟩ hS4 ?_
    simp only [List.getElem_toArray, List.getElem_cons_succ, List.getElem_cons_zero, Act.put, List.setIfInBounds_toArray, List.set_cons_zero, List.set_cons_succ]
    refine anyU_take (i := 4) (v := .int .i64 v) rfl (by kernel_rfl) (by kernel_rfl) (by kernel_rfl) (fun _ _ _ h => h) ⟨by rfl, fun w' hS' => (by obtain ⟨s1, s2, s3, s4⟩ := hS'; go_simp)⟩ hS4 ?_
    simp only [List.getElem_toArray, List.getElem_cons_succ, List.getElem_cons_zero, Act.put, List.setIfInBounds_toArray, List.set_cons_zero, List.set_cons_succ]
    refine anyU_take (i := 7) (v := .int .i64 0) rfl (by kernel_rfl) (by kernel_rfl) (by kernel_rfl) (fun _ _ _ h => h) ⟨by rfl, fun w' hS' => (by obtain ⟨s1, s2, s3, s4⟩ := hS'; go_simp)⟩ hS4 ?_
    simp only [List.getElem_toArray, List.getElem_cons_succ, List.getElem_cons_zero, Act.put, List.setIfInBounds_toArray, List.set_cons_zero, List.set_cons_succ]
    refine anyU_ready (rs := [5]) (by kernel_rfl) (by simp) ?_
    refine ReadyU.cons (i := 5) rfl (fun K hK => ?_) ReadyU.nil
    simp only [List.getElem_toArray, List.getElem_cons_succ, List.getElem_cons_zero]
    refine ite_is (by rfl) ?_
    simp [go_sem]
    refine (neNear_any _ N v lo1 hi1 _ (Net.turned G1.out HF3.out (by omega) (by omega)) (by omega) hv (by omega)).mono ?_
    rintro e W5 ⟨r, rfl, hr, hb5⟩
    have hg5 := grown_below hb5; clear hb5
    have hs5 := hg5.size
    have HF5 := Lib.hid (HF3.out.still hg5); clear HF3
    have O5 := Lib.hid (OwnI.still O3.out hg5); clear O3
    have R5 := Lib.hid hr; clear hr
    have hS6 : W5.cell? ⟨w.heap.size, 0, none⟩ = some (.slice (some ⟨b1, o1, none⟩) N.ends.length c1) ∧ W5.cell? ⟨w.heap.size, 1, none⟩ = some (.slice A1' N.ids.length c1') ∧ W5.cell? ⟨w.heap.size, 2, none⟩ = some (.slice A1'' N.inputs.length c1'') ∧ W5.cell? ⟨bz, oz + k, none⟩ = some (.int .i64 v) := ⟨(HF5.out.boxN bx1 (by omega)).cell 0 (by simp), (HF5.out.boxN bx1 (by omega)).cell 1 (by simp), (HF5.out.boxN bx1 (by omega)).cell 2 (by simp), (by have := (IntS.at_ O5.out.ints (j := k) hlt).1; rw [HEV.out] at this; exact this)⟩
    refine hK.out _ _ ⟨fun _ => hS6, ?_⟩
    clear hK K hS4
    try simp only [List.getElem_toArray, List.getElem_cons_succ, List.getElem_cons_zero, Act.put, List.setIfInBounds_toArray, List.set_cons_zero, List.set_cons_succ]
    obtain ⟨Ar, cr, rfl, hcr, hdr⟩ := R5.out.dims
    rw [nbs_length] at hcr
    try rw [nbs_length]
    refine anyU_ready (rs := [6]) (by kernel_rfl) (by simp) ?_
    refine ReadyU.cons (i := 6) rfl (fun K hK => ?_) ReadyU.nil
    simp only [List.getElem_toArray, List.getElem_cons_succ, List.getElem_cons_zero]
    refine ite_is (by rfl) ?_
    simp [go_sem]
    refine hK.out _ _ ⟨fun _ => hS6, ?_⟩
    clear hK K
    try simp only [List.getElem_toArray, List.getElem_cons_succ, List.getElem_cons_zero, Act.put, List.setIfInBounds_toArray, List.set_cons_zero, List.set_cons_succ]
    clear hS6
    refine anyU_done (by kernel_rfl) ?_ _
    try simp only [nbs_length]
    go_wp2_with fail
    go_loopw [24, 5] (fun iv ov wr => ∃ (m : Nat) (out' : List Int), m ≤ (nthL N.ends v).length ∧ iv = .int .i64 m ∧ Hid (OwnI wr WA.heap.size 3 ov out') ∧ Hid (CoInv N k out') ∧ Hid (k < out'.length ∧ nth out' k = v) ∧ Hid (∀ i, i < m → (nthE (nthL N.ends v) i).1 ∈ out') ∧ Hid (IntS wr W3.heap.size W5.heap.size (.slice Ar (nthL N.ends v).length cr) (nbs N v)) ∧ Hid (∀ g, ov.ownBlock = some g → g < W3.heap.size ∨ W5.heap.size ≤ g) ∧ W5.heap.size ≤ wr.heap.size ∧ Hid (Turned WA.heap.size WA.heap.size WA wr)) (fun iv ov _ => (nthL N.ends v).length - (intOf iv).toNat)
    case atStart => exact ⟨0, out, Nat.zero_le _, rfl, O5, HI, Lib.hid ⟨hlt, HEV.out⟩, Lib.hid fun i hi => absurd hi (by omega), Lib.hid (by have := R5.out; first | exact this | (rw [nbs_length] at this; exact this)), Lib.hid fun g hg => .inl (by have := hlv2.out g hg; omega), Nat.le_refl _, HF5⟩
    case round =>
      clear HF5
      obtain ⟨m, out', hm, rfl, HO, HM, HE, HU, HRF, HAP, hz2, HF7⟩ := hrel
      have hs7 := HF7.out.size
      have hlo := HM.out.len
      have hlv3 := HO.out.lt
      by_cases hml : m < (nthL N.ends v).length
      case neg =>
        obtain rfl : m = (nthL N.ends v).length := by omega
        have HIN := Lib.hid (HM.out.next HE.out.1 HE.out.2 HU.out)
        go_wp2_with fail
        go_roundw
        case rel => exact ⟨k + 1, out', by go_num, HO, HIN, by omega, HF7⟩
        case measure => simp [intOf]; omega
      obtain ⟨t, rr, et, ht, hr2, _⟩ := good_end HG.out hv hml
      have hln : (nbs N v).length = (nthL N.ends v).length := nbs_length N v
      obtain ⟨b3, o3, rfl, _, _, x3, _⟩ := IntS.opened HRF.out (j := m) (by rw [hln]; exact hml)
      rw [nth_nbs N v hml, et] at x3
      dsimp only at x3
      have HRT := Lib.hid (reach_step HG.out HR0.out ⟨hv, ht, m, hml, by rw [et]⟩)
      have HET := Lib.hid (show (nthE (nthL N.ends v) m).1 = (t : Int) by rw [et])
      clear et
      obtain ⟨Ay, cy, rfl, hcy, hdy⟩ := HO.out.ints.dims
      cases hmm : decide ((t : Int) ∈ out') with
      | true =>
        have HMM := Lib.hid hmm; clear hmm
        go_wp2_with (go_at_call 41; refine (l1Has_any _ out' _ _ _ _ HO.out.ints).mono ?_; rintro e w' ⟨rfl, rfl⟩; rw [HMM.out])
        go_roundw
        case rel =>
          refine ⟨m + 1, out', by omega, by go_num, HO, HM, HE, Lib.hid fun i hi => ?_, HRF, HAP, by omega, HF7⟩
          by_cases e : i = m
          · rw [e, HET.out]; exact of_decide_eq_true HMM.out
          · exact HU.out i (by omega)
        case measure => simp [intOf]; omega
      | false =>
        have HMM := Lib.hid hmm; clear hmm
        have HMN := Lib.hid (HM.out.add ht HRT.out (of_decide_eq_false HMM.out))
        go_wp2_with (first | (go_at_call 41; refine (l1Has_any _ out' _ _ _ _ HO.out.ints).mono ?_; rintro e w' ⟨rfl, rfl⟩; rw [HMM.out]) | (at_builtin; refine append_int (s := .tmp 32) Try.underlying23 Try.info3 (by decide) wr rfl _ rfl HO.out t _ rfl (by simp [Act.eval, go_sem]) (by omega) (by omega) ?_; intro v' w' ho' hg' hat'))
        go_roundw
        case rel =>
          have hgs := hg'.size
          refine ⟨m + 1, _, by omega, by go_num, Lib.hid ho', HMN, Lib.hid ⟨by simp; have := HE.out.1; omega, by rw [nth_append_left HE.out.1]; exact HE.out.2⟩, Lib.hid fun i hi => ?_, Lib.hid (IntS.far HRF.out hg' (by omega) HAP.out), Lib.hid fun g hg => ?_, by omega, Lib.hid (HF7.out.grown hg' fun g hg => .inr (hlv3 g hg).1)⟩
          · by_cases e : i = m
            · rw [e, HET.out]; simp
            · exact List.mem_append.2 (.inl (HU.out i (by omega)))
          · rcases hat' with e | e
            · rw [e] at hg; exact HAP.out g hg
            · rw [e] at hg; injection hg with hg; right; omega
        case measure => simp [intOf]; omega

set_option maxHeartbeats 1000000 in
set_option maxRecDepth 100000 in
theorem coConnected_any (v1 : Value) (N : NetD) (lo1 hi1 : Nat) (w : World) (h1 : Net w lo1 hi1 v1 N) (hh1 : hi1 ≤ w.heap.size) (hg : N.good = true) :
    Calls Try.prog 12 #[v1] w fun e w' => e = .returned (.bool (conn N)) ∧ Below w.heap.size w w' := by
  obtain ⟨n1, n40⟩ := good_n hg
  have HG := Lib.hid hg; clear hg
  have F1 := Lib.hid h1
  obtain ⟨A1, c1, A1', c1', A1'', c1'', rfl, hc1, hd1, _⟩ := h1.parts
  obtain ⟨b1, o1, _, _, rfl, _⟩ := Net.rowAt F1.out (u := 0) (by omega)
  clear h1
  obtain ⟨WA, HWA⟩ : ∃ W, Hid (W = (w.alloc (.cells #[.slice (some ⟨b1, o1, none⟩) N.ends.length c1, .slice A1' N.ids.length c1', .slice A1'' N.inputs.length c1''] 31))) := ⟨_, Lib.hid rfl⟩
  have hbA : Below w.heap.size w WA := by rw [HWA.out]; exact ((Below.refl _ _).alloc (Nat.le_refl _) _)
  have hsA : w.heap.size + 1 ≤ WA.heap.size := by rw [HWA.out]; simp; try omega
  have bx1 : BoxN WA (w.heap.size) #[.slice (some ⟨b1, o1, none⟩) N.ends.length c1, .slice A1' N.ids.length c1', .slice A1'' N.inputs.length c1''] 31 := by rw [HWA.out]; exact (BoxN.new' _ _ _ (by simp))
  have G1 := Lib.hid (Net.below F1.out hbA hh1); clear F1
  go_enter Try.func12, Try.ntmps12
  go_upto_region 1 with (fail)
  rw [← HWA.out]; clear HWA
  refine wp_region_U (fun w' => w'.cell? ⟨w.heap.size, 0, none⟩ = some (.slice (some ⟨b1, o1, none⟩) N.ends.length c1) ∧ w'.cell? ⟨w.heap.size, 1, none⟩ = some (.slice A1' N.ids.length c1') ∧ w'.cell? ⟨w.heap.size, 2, none⟩ = some (.slice A1'' N.inputs.length c1'')) [] (by kernel_rfl) ?_
  refine nameU ?_
  intro W1 HW1
  have hg1 : WA.grownBy W1 none := by rw [HW1.out]; exact grown_drew _
  clear HW1
  have hs1 := hg1.size
  have HF1 := Lib.hid ((Turned.refl WA.heap.size WA.heap.size WA).still hg1)
  have hS2 : W1.cell? ⟨w.heap.size, 0, none⟩ = some (.slice (some ⟨b1, o1, none⟩) N.ends.length c1) ∧ W1.cell? ⟨w.heap.size, 1, none⟩ = some (.slice A1' N.ids.length c1') ∧ W1.cell? ⟨w.heap.size, 2, none⟩ = some (.slice A1'' N.inputs.length c1'') := ⟨(HF1.out.boxN bx1 (by omega)).cell 0 (by simp), (HF1.out.boxN bx1 (by omega)).cell 1 (by simp), (HF1.out.boxN bx1 (by omega)).cell 2 (by simp)⟩
  refine anyU_take (i := 0) (v := .agg #[.slice (some ⟨b1, o1, none⟩) N.ends.length c1, .slice A1' N.ids.length c1', .slice A1'' N.inputs.length c1'']) rfl (by kernel_rfl) (by kernel_rfl) (by kernel_rfl) (fun _ _ _ h => h) ⟨by rfl, fun w' hS' => (by obtain ⟨s1, s2, s3⟩ := hS'; go_simp)⟩ hS2 ?_
  simp only [List.getElem_toArray, List.getElem_cons_zero, Act.put, List.setIfInBounds_toArray, List.set_cons_zero, List.set_cons_succ]
  refine anyU_take (i := 3) (v := .pointer (some ⟨w.heap.size, 0, none⟩)) rfl (by kernel_rfl) (by kernel_rfl) (by kernel_rfl) (fun _ _ _ h => h) ⟨by rfl, fun w' hS' => (by obtain ⟨s1, s2, s3⟩ := hS'; go_simp)⟩ hS2 ?_
  simp only [List.getElem_toArray, List.getElem_cons_succ, List.getElem_cons_zero, Act.put, List.setIfInBounds_toArray, List.set_cons_zero, List.set_cons_succ]
  refine anyU_take (i := 4) (v := .slice (some ⟨b1, o1, none⟩) N.ends.length c1) rfl (by kernel_rfl) (by kernel_rfl) (by kernel_rfl) (fun _ _ _ h => h) ⟨by rfl, fun w' hS' => (by obtain ⟨s1, s2, s3⟩ := hS'; go_simp)⟩ hS2 ?_
  simp only [List.getElem_toArray, List.getElem_cons_succ, List.getElem_cons_zero, Act.put, List.setIfInBounds_toArray, List.set_cons_zero, List.set_cons_succ]
  refine anyU_take (i := 5) (v := .int .i64 N.ends.length) rfl (by kernel_rfl) (by kernel_rfl) (by kernel_rfl) (fun _ _ _ h => h) ⟨by rfl, fun w' hS' => (by obtain ⟨s1, s2, s3⟩ := hS'; go_simp)⟩ hS2 ?_
  simp only [List.getElem_toArray, List.getElem_cons_succ, List.getElem_cons_zero, Act.put, List.setIfInBounds_toArray, List.set_cons_zero, List.set_cons_succ]
  refine anyU_ready (rs := [1]) (by kernel_rfl) (by simp) ?_
  refine ReadyU.cons (i := 1) rfl (fun K hK => ?_) ReadyU.nil
  simp only [List.getElem_toArray, List.getElem_cons_succ, List.getElem_cons_zero]
  refine ite_is (by rfl) ?_
  simp [go_sem]
  refine (coReach_any _ N lo1 hi1 0 _ (Net.turned G1.out HF1.out (by omega) (by omega)) (by omega) HG.out rfl).mono ?_
  rintro e W3 ⟨r, out, rfl, hr, hco, hb3⟩
  have hg3 := grown_below hb3; clear hb3
  have hs3 := hg3.size
  have HF3 := Lib.hid (HF1.out.still hg3); clear HF1
  have hS4 : W3.cell? ⟨w.heap.size, 0, none⟩ = some (.slice (some ⟨b1, o1, none⟩) N.ends.length c1) ∧ W3.cell? ⟨w.heap.size, 1, none⟩ = some (.slice A1' N.ids.length c1') ∧ W3.cell? ⟨w.heap.size, 2, none⟩ = some (.slice A1'' N.inputs.length c1'') := ⟨(HF3.out.boxN bx1 (by omega)).cell 0 (by simp), (HF3.out.boxN bx1 (by omega)).cell 1 (by simp), (HF3.out.boxN bx1 (by omega)).cell 2 (by simp)⟩
  refine hK.out _ _ ⟨fun _ => hS4, ?_⟩
  clear hK K hS2
  try simp only [List.getElem_toArray, List.getElem_cons_succ, List.getElem_cons_zero, Act.put, List.setIfInBounds_toArray, List.set_cons_zero, List.set_cons_succ]
  have HCC := Lib.hid (hco.conn HG.out)
  obtain ⟨Ar, cr, rfl, hcr, hdr⟩ := hr.dims
  have hcl := hco.len
  clear hr hco
  obtain ⟨m, HM⟩ : ∃ m, Hid (out.length = m) := ⟨_, Lib.hid rfl⟩
  rw [HM.out] at HCC ⊢
  cases hcn : conn N with
  | true =>
    rw [hcn] at HCC
    have heq : ((m : Int) == (N.ends.length : Int)) = true := by have := HCC.out; simp at this ⊢; omega
    have HCN := Lib.hid hcn; clear hcn
    refine anyU_ready (rs := [2]) (by kernel_rfl) (by simp) ?_
    refine ReadyU.cons (i := 2) rfl (fun K hK => ?_) ReadyU.nil
    simp only [List.getElem_toArray, List.getElem_cons_succ, List.getElem_cons_zero]
    refine ite_is (by rfl) ?_
    simp [go_sem]
    refine hK.out _ _ ⟨fun _ => hS4, ?_⟩
    clear hK K
    try simp only [List.getElem_toArray, List.getElem_cons_succ, List.getElem_cons_zero, Act.put, List.setIfInBounds_toArray, List.set_cons_zero, List.set_cons_succ]
    refine anyU_ready (rs := [6]) (by kernel_rfl) (by simp) ?_
    refine ReadyU.cons (i := 6) rfl (fun K hK => ?_) ReadyU.nil
    simp only [List.getElem_toArray, List.getElem_cons_succ, List.getElem_cons_zero]
    refine ite_is (by rfl) ?_
    simp [go_sem, heq]
    refine hK.out _ _ ⟨fun _ => hS4, ?_⟩
    clear hK K
    try simp only [List.getElem_toArray, List.getElem_cons_succ, List.getElem_cons_zero, Act.put, List.setIfInBounds_toArray, List.set_cons_zero, List.set_cons_succ]
    refine anyU_ready (rs := [7]) (by kernel_rfl) (by simp) ?_
    refine ReadyU.cons (i := 7) rfl (fun K hK => ?_) ReadyU.nil
    simp only [List.getElem_toArray, List.getElem_cons_succ, List.getElem_cons_zero]
    refine ite_is (by rfl) ?_
    simp [go_sem]
    refine hK.out _ _ ⟨fun _ => hS4, ?_⟩
    clear hK K
    try simp only [List.getElem_toArray, List.getElem_cons_succ, List.getElem_cons_zero, Act.put, List.setIfInBounds_toArray, List.set_cons_zero, List.set_cons_succ]
    clear hS4
    refine anyU_done (by kernel_rfl) ?_ _
    go_wp2_with fail
    go_ret
    exact ⟨ret_bool HCN.out.symm, (HF3.out.below_of hbA (by omega) (by omega))⟩
  | false =>
    rw [hcn] at HCC
    have heq : ((m : Int) == (N.ends.length : Int)) = false := by have := HCC.out; simp at this ⊢; omega
    have HCN := Lib.hid hcn; clear hcn
    refine anyU_ready (rs := [2]) (by kernel_rfl) (by simp) ?_
    refine ReadyU.cons (i := 2) rfl (fun K hK => ?_) ReadyU.nil
    simp only [List.getElem_toArray, List.getElem_cons_succ, List.getElem_cons_zero]
    refine ite_is (by rfl) ?_
    simp [go_sem]
    refine hK.out _ _ ⟨fun _ => hS4, ?_⟩
    clear hK K
    try simp only [List.getElem_toArray, List.getElem_cons_succ, List.getElem_cons_zero, Act.put, List.setIfInBounds_toArray, List.set_cons_zero, List.set_cons_succ]
    refine anyU_ready (rs := [6]) (by kernel_rfl) (by simp) ?_
    refine ReadyU.cons (i := 6) rfl (fun K hK => ?_) ReadyU.nil
    simp only [List.getElem_toArray, List.getElem_cons_succ, List.getElem_cons_zero]
    refine ite_is (by rfl) ?_
    simp [go_sem, heq]
    refine hK.out _ _ ⟨fun _ => hS4, ?_⟩
    clear hK K
    try simp only [List.getElem_toArray, List.getElem_cons_succ, List.getElem_cons_zero, Act.put, List.setIfInBounds_toArray, List.set_cons_zero, List.set_cons_succ]
    refine anyU_ready (rs := [7]) (by kernel_rfl) (by simp) ?_
    refine ReadyU.cons (i := 7) rfl (fun K hK => ?_) ReadyU.nil
    simp only [List.getElem_toArray, List.getElem_cons_succ, List.getElem_cons_zero]
    refine ite_is (by rfl) ?_
    simp [go_sem]
    refine hK.out _ _ ⟨fun _ => hS4, ?_⟩
    clear hK K
    try simp only [List.getElem_toArray, List.getElem_cons_succ, List.getElem_cons_zero, Act.put, List.setIfInBounds_toArray, List.set_cons_zero, List.set_cons_succ]
    clear hS4
    refine anyU_done (by kernel_rfl) ?_ _
    go_wp2_with fail
    go_ret
    exact ⟨ret_bool HCN.out.symm, (HF3.out.below_of hbA (by omega) (by omega))⟩

end Go.Proofs.Ytjgmmmcmoaaiaaa
