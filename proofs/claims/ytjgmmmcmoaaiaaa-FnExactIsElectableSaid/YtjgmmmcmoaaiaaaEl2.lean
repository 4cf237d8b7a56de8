/-
  Contracts: stable classes of views, and whether no two nodes are twins (program).
-/
import Derived.Test.YtjgmmmcmoaaiaaaEl
import Derived.Test.YtjgmmmcmoaaiaaaComp
namespace Go.Proofs.Ytjgmmmcmoaaiaaa
open Go.ChangeShapes Go.WideShapes Go.ChangeAt Go.RowKit
set_option linter.unusedVariables false

theorem cnt1_most {l : List Int} (h0 : 0 < l.length) (hp : ∀ x ∈ l, 0 ≤ x) : mostI l + 1 = cnt1 l := by
  obtain ⟨m0, m1, m2⟩ := mostI_spec l
  have a : cnt1 l ≤ mostI l + 1 := foldl_max_le (by omega) (fun x hx => by have := m1 x hx; omega)
  have b := (foldl_max_ge (l := l) (a := 0)).2
  have c : mostI l + 1 ≤ cnt1 l := by
    rcases m2 with m2 | m2
    · have h1 := b _ (nth_mem h0)
      have h2 := hp _ (nth_mem h0)
      have h3 : nth l 0 + 1 ≤ cnt1 l := h1
      omega
    · exact b _ m2
  omega
theorem good_hn {N : NetD} (h : N.good = true) : ∀ v i, v < N.ends.length → i < (nthL N.ends v).length → (nthE (nthL N.ends v) i).1.toNat < N.ends.length := fun v i hv hi => by
  obtain ⟨t, r, e, ht, _⟩ := good_end h hv hi
  rw [e, Int.toNat_natCast]; exact ht
theorem good_h6 {N : NetD} (h : N.good = true) : ∀ v, (nthL N.ends v).length ≤ 6 := fun v => by
  by_cases hv : v < N.ends.length
  · exact good_deg h hv
  · unfold nthL; rw [List.getD_eq_getElem?_getD, List.getElem?_eq_none (by omega)]; exact Nat.zero_le _
theorem vat_mem (N : NetD) : ∀ t, ∀ x ∈ vat N t, 0 ≤ x ∧ x ≤ N.ends.length
  | 0 => vstep_mem
  | _ + 1 => vstep_mem
theorem vat_climb {N : NetD} (hg : N.good = true) : ∀ T, (∀ s, s < T → cnt1 (vat N (s + 1)) ≠ cnt1 (vat N s)) → (T : Int) ≤ cnt1 (vat N T)
  | 0, _ => (foldl_max_ge (l := vat N 0) (a := 0)).1
  | T + 1, h => by
    have := vat_climb hg T (fun s hs => h s (by omega))
    have h1 := (vat_mono (by have := good_n hg; omega) (good_hn hg) (good_h6 hg) T).1
    have h2 := h T (by omega)
    omega
theorem vat_most {N : NetD} (hg : N.good = true) (T : Nat) : cnt1 (vat N T) ≤ N.ends.length := by
  have h := vat_mono (by have := good_n hg; omega) (good_hn hg) (good_h6 hg) T
  omega
def elOk (N : NetD) : Bool := N.good && conn N
open Classical in
noncomputable def elB (N : NetD) : Bool := elOk N && decide (∃ T, EndsAt N T ∧ cnt1 (vat N T) = N.ends.length)
theorem elNo {N : NetD} (h : elOk N = false) : elB N = false := by unfold elB; rw [h]; rfl
theorem elYes {N : NetD} (h : elOk N = true) {T : Nat} (hT : EndsAt N T) : elB N = decide (cnt1 (vat N T) = N.ends.length) := by
  unfold elB
  rw [h, Bool.true_and, decide_eq_decide]
  exact ⟨fun ⟨T', h1, h2⟩ => by rw [hT.uniq h1]; exact h2, fun h1 => ⟨T, hT, h1⟩⟩

set_option maxHeartbeats 2000000 in
set_option maxRecDepth 100000 in
theorem stable_any (v1 : Value) (N : NetD) (lo1 hi1 : Nat) (w : World) (h1 : Net w lo1 hi1 v1 N) (hh1 : hi1 ≤ w.heap.size) (hg : N.good = true) :
    Calls Try.prog 19 #[v1] w fun e w' => ∃ r T, e = .returned (.tuple #[.int .i64 (T : Nat), r]) ∧ EndsAt N T ∧ IntS w' w.heap.size w'.heap.size r (vat N T) ∧ Below w.heap.size w w' := by
  obtain ⟨n1, n40⟩ := good_n hg
  have HG := Lib.hid hg; clear hg
  have F1 := Lib.hid h1
  obtain ⟨A1, c1, A1', c1', A1'', c1'', rfl, hc1, hd1, _⟩ := h1.parts
  clear h1
  obtain ⟨WA, HWA⟩ : ∃ W, Hid (W = (w.alloc (.cells #[.slice A1 N.ends.length c1, .slice A1' N.ids.length c1', .slice A1'' N.inputs.length c1''] 31))) := ⟨_, Lib.hid rfl⟩
  have hbA : Below w.heap.size w WA := by rw [HWA.out]; exact ((Below.refl _ _).alloc (Nat.le_refl _) _)
  have hsA : w.heap.size + 1 ≤ WA.heap.size := by rw [HWA.out]; simp; try omega
  have bx1 : BoxN WA (w.heap.size) #[.slice A1 N.ends.length c1, .slice A1' N.ids.length c1', .slice A1'' N.inputs.length c1''] 31 := by rw [HWA.out]; exact (BoxN.new' _ _ _ (by simp))
  have G1 := Lib.hid (Net.below F1.out hbA hh1); clear F1
  go_enter Try.func19, Try.ntmps19
  go_upto_region 1 with (fail)
  rw [← HWA.out]; clear HWA
  have kbx1_0 : WA.cell? ⟨w.heap.size, 0, none⟩ = some (.slice A1 N.ends.length c1) := bx1.cell 0 (by simp)
  have kbx1_1 : WA.cell? ⟨w.heap.size, 1, none⟩ = some (.slice A1' N.ids.length c1') := bx1.cell 1 (by simp)
  have kbx1_2 : WA.cell? ⟨w.heap.size, 2, none⟩ = some (.slice A1'' N.inputs.length c1'') := bx1.cell 2 (by simp)
  go_wp2_with fail
  clear kbx1_0 kbx1_1 kbx1_2
  refine (viewClasses0_any _ N lo1 hi1 _ _ G1.out (by omega) HG.out rfl).mono ?_
  rintro e W1 ⟨r, rfl, hr, hb1⟩
  have hg1 := grown_below hb1; clear hb1
  have hs1 := hg1.size
  have HF1 := Lib.hid ((Turned.refl WA.heap.size WA.heap.size WA).still hg1)
  have C1 := Lib.hid hr; clear hr
  go_wp2_with fail
  go_loopw [5, 4] (fun i cv wr => ∃ (T : Nat), i = .int .i64 T ∧ Hid (IntS wr w.heap.size wr.heap.size cv (vat N T)) ∧ Hid (∀ s, s < T → cnt1 (vat N (s + 1)) ≠ cnt1 (vat N s)) ∧ WA.heap.size ≤ wr.heap.size ∧ Hid (Turned WA.heap.size WA.heap.size WA wr)) (fun i cv _ => N.ends.length + 1 - (intOf i).toNat)
  case atStart => exact ⟨0, rfl, Lib.hid (IntS.mono C1.out (by omega) (Nat.le_refl _)), Lib.hid fun s hs => absurd hs (by omega), by omega, HF1⟩
  case round =>
    clear HF1
    obtain ⟨T, rfl, HC, HN, hz, HF2⟩ := hrel
    have hs2 := HF2.out.size
    obtain ⟨wq, rfl⟩ : ∃ wq : World, wq = wr := ⟨_, rfl⟩
    have hcl := vat_climb HG.out T HN.out
    have hcm := vat_most HG.out T
    have hTn : T ≤ N.ends.length := by omega
    have hTi : IntKind.i64.wrap ((T : Int) + 1) = (T : Int) + 1 := IntWalk.i64_in _ (by omega)
    have hlT := vat_length N T
    have HCM := Lib.hid (vat_mem N T)
    have HDM := Lib.hid (vat_mem N (T + 1))
    have hlD := vat_length N (T + 1)
    obtain ⟨a, HA⟩ : ∃ a, Hid (cnt1 (vat N (T + 1)) = a) := ⟨_, Lib.hid rfl⟩
    obtain ⟨b, HB⟩ : ∃ b, Hid (cnt1 (vat N T) = b) := ⟨_, Lib.hid rfl⟩
    obtain ⟨dt, HDT⟩ : ∃ c, Hid (vat N (T + 1) = c) := ⟨_, Lib.hid rfl⟩
    obtain ⟨ct, HCT⟩ : ∃ c, Hid (vat N T = c) := ⟨_, Lib.hid rfl⟩
    have HNX := Lib.hid (show vstep N ct = dt by rw [← HDT.out, ← HCT.out]; rfl)
    have HA2 := Lib.hid (show cnt1 dt = a by rw [← HDT.out]; exact HA.out)
    have HB2 := Lib.hid (show cnt1 ct = b by rw [← HCT.out]; exact HB.out)
    rw [HCT.out] at HC hlT HCM hcl hcm
    rw [HDT.out] at hlD HDM
    have HLT := Lib.hid hlT
    have HLD := Lib.hid hlD
    clear hcl hcm hlT hlD
    obtain ⟨Ac, cc, rfl, hcc, hdc⟩ := HC.out.dims
    have kbx1_0 : wq.cell? ⟨w.heap.size, 0, none⟩ = some (.slice A1 N.ends.length c1) := (HF2.out.boxN bx1 (by omega)).cell 0 (by simp)
    have kbx1_1 : wq.cell? ⟨w.heap.size, 1, none⟩ = some (.slice A1' N.ids.length c1') := (HF2.out.boxN bx1 (by omega)).cell 1 (by simp)
    have kbx1_2 : wq.cell? ⟨w.heap.size, 2, none⟩ = some (.slice A1'' N.inputs.length c1'') := (HF2.out.boxN bx1 (by omega)).cell 2 (by simp)
    go_wp2_with fail
    clear kbx1_0 kbx1_1 kbx1_2
    refine (viewClasses_any _ N lo1 hi1 _ ct _ _ _ (Net.turned G1.out HF2.out (by omega) (by omega)) (by omega) HC.out (Nat.le_refl _) HG.out HLT.out (fun x hx => by have := HCM.out x hx; unfold I64; omega)).mono ?_
    rintro e W3 ⟨r, rfl, hr, hb3⟩
    have hg3 := grown_below hb3; clear hb3
    have hs3 := hg3.size
    have HF3 := Lib.hid (HF2.out.still hg3); clear HF2
    have C3 := Lib.hid (IntS.still HC.out hg3 (by omega)); clear HC
    have D3 := Lib.hid hr; clear hr
    rw [HNX.out] at D3
    obtain ⟨Ad, cd, rfl, hcd, hdd⟩ := D3.out.dims
    by_cases hab : a = b
    case pos =>
      have hab' : (a == b) = true := by simp [hab]
      have HAB := Lib.hid hab; clear hab
      go_wp2_with (first | (go_at_call 20; refine (classCount_any _ dt _ _ _ D3.out (by have := HLD.out; omega) (fun x hx => (HDM.out x hx).1) (fun x hx => by have := (HDM.out x hx).2; omega)).mono ?_; rintro e w' ⟨rfl, rfl⟩; rw [cnt1_most (by have := HLD.out; omega) (fun x hx => (HDM.out x hx).1), HA2.out]) | (go_at_call 20; refine (classCount_any _ ct _ _ _ C3.out (by have := HLT.out; omega) (fun x hx => (HCM.out x hx).1) (fun x hx => by have := (HCM.out x hx).2; omega)).mono ?_; rintro e w' ⟨rfl, rfl⟩; rw [cnt1_most (by have := HLT.out; omega) (fun x hx => (HCM.out x hx).1), HB2.out]))
      go_ret2
      exact ⟨_, T, rfl, ⟨by rw [HA.out, HAB.out, HB.out], HN.out⟩, by rw [HCT.out]; exact IntS.mono C3.out (Nat.le_refl _) (by omega), (HF3.out.below_of hbA (by omega) (by omega))⟩
    have hab' : (a == b) = false := by simpa using hab
    have HAB := Lib.hid hab; clear hab
    have HN2 := Lib.hid (show ∀ s, s < T + 1 → cnt1 (vat N (s + 1)) ≠ cnt1 (vat N s) from fun s hs => by
      by_cases e : s = T
      · rw [e, HA.out, HB.out]; exact HAB.out
      · exact HN.out s (by omega))
    have hcl2 := vat_climb HG.out (T + 1) HN2.out
    have hcm2 := vat_most HG.out (T + 1)
    have hTn2 : T + 1 ≤ N.ends.length := by omega
    clear hcl2 hcm2
    go_wp2_with (first | (go_at_call 20; refine (classCount_any _ dt _ _ _ D3.out (by have := HLD.out; omega) (fun x hx => (HDM.out x hx).1) (fun x hx => by have := (HDM.out x hx).2; omega)).mono ?_; rintro e w' ⟨rfl, rfl⟩; rw [cnt1_most (by have := HLD.out; omega) (fun x hx => (HDM.out x hx).1), HA2.out]) | (go_at_call 20; refine (classCount_any _ ct _ _ _ C3.out (by have := HLT.out; omega) (fun x hx => (HCM.out x hx).1) (fun x hx => by have := (HCM.out x hx).2; omega)).mono ?_; rintro e w' ⟨rfl, rfl⟩; rw [cnt1_most (by have := HLT.out; omega) (fun x hx => (HCM.out x hx).1), HB2.out]))
    go_roundw
    case rel => exact ⟨T + 1, by go_num, Lib.hid (by rw [HDT.out]; exact IntS.mono D3.out (by omega) (Nat.le_refl _)), HN2, by omega, HF3⟩
    case measure => simp [intOf]; omega

set_option maxHeartbeats 2000000 in
set_option maxRecDepth 100000 in
theorem IsElectable_impl (v1 : Value) (N : NetD) (lo1 hi1 : Nat) (w : World) (h1 : Net w lo1 hi1 v1 N) (hh1 : hi1 ≤ w.heap.size) (hz1 : N.sz ≤ 1048576) (ok1 : N.Ok) :
    Calls Try.prog 7 #[v1] w fun e w' => e = .returned (.tuple #[.bool (elB N), .bool (elOk N)]) ∧ Below w.heap.size w w' := by
  clear ok1
  have F1 := Lib.hid h1
  obtain ⟨A1, c1, A1', c1', A1'', c1'', rfl, hc1, hd1, _⟩ := h1.parts
  clear h1
  obtain ⟨WA, HWA⟩ : ∃ W, Hid (W = (w.alloc (.cells #[.slice A1 N.ends.length c1, .slice A1' N.ids.length c1', .slice A1'' N.inputs.length c1''] 31))) := ⟨_, Lib.hid rfl⟩
  have hbA : Below w.heap.size w WA := by rw [HWA.out]; exact ((Below.refl _ _).alloc (Nat.le_refl _) _)
  have hsA : w.heap.size + 1 ≤ WA.heap.size := by rw [HWA.out]; simp; try omega
  have bx1 : BoxN WA (w.heap.size) #[.slice A1 N.ends.length c1, .slice A1' N.ids.length c1', .slice A1'' N.inputs.length c1''] 31 := by rw [HWA.out]; exact (BoxN.new' _ _ _ (by simp))
  have G1 := Lib.hid (Net.below F1.out hbA hh1); clear F1
  go_enter Try.func7, Try.ntmps7
  go_upto_region 1 with (fail)
  rw [← HWA.out]; clear HWA
  have kbx1_0 : WA.cell? ⟨w.heap.size, 0, none⟩ = some (.slice A1 N.ends.length c1) := bx1.cell 0 (by simp)
  have kbx1_1 : WA.cell? ⟨w.heap.size, 1, none⟩ = some (.slice A1' N.ids.length c1') := bx1.cell 1 (by simp)
  have kbx1_2 : WA.cell? ⟨w.heap.size, 2, none⟩ = some (.slice A1'' N.inputs.length c1'') := bx1.cell 2 (by simp)
  go_wp2_with fail
  clear kbx1_0 kbx1_1 kbx1_2
  refine (IsNetwork_any _ N lo1 hi1 _ G1.out (by omega) hz1).mono ?_
  rintro e W1 ⟨rfl, hb1⟩
  have hg1 := grown_below hb1; clear hb1
  have hs1 := hg1.size
  have HF1 := Lib.hid ((Turned.refl WA.heap.size WA.heap.size WA).still hg1)
  by_cases hg : N.good = true
  case neg =>
    have hg' : N.good = false := by simpa using hg
    rw [hg']
    have HG := Lib.hid hg'; clear hg hg'
    go_wp2_with fail
    go_ret2
    exact ⟨ret_bb (elNo (show elOk N = false by unfold elOk; rw [HG.out]; rfl)).symm (show elOk N = false by unfold elOk; rw [HG.out]; rfl).symm, (HF1.out.below_of hbA (by omega) (by omega))⟩
  rw [hg]
  have HG := Lib.hid hg; clear hg
  obtain ⟨n1, n40⟩ := good_n HG.out
  have kbx1_0 : W1.cell? ⟨w.heap.size, 0, none⟩ = some (.slice A1 N.ends.length c1) := (HF1.out.boxN bx1 (by omega)).cell 0 (by simp)
  have kbx1_1 : W1.cell? ⟨w.heap.size, 1, none⟩ = some (.slice A1' N.ids.length c1') := (HF1.out.boxN bx1 (by omega)).cell 1 (by simp)
  have kbx1_2 : W1.cell? ⟨w.heap.size, 2, none⟩ = some (.slice A1'' N.inputs.length c1'') := (HF1.out.boxN bx1 (by omega)).cell 2 (by simp)
  go_wp2_with fail
  clear kbx1_0 kbx1_1 kbx1_2
  refine (isConnected_any _ N lo1 hi1 _ (Net.turned G1.out HF1.out (by omega) (by omega)) (by omega) HG.out).mono ?_
  rintro e W2 ⟨rfl, hb2⟩
  have hg2 := grown_below hb2; clear hb2
  have hs2 := hg2.size
  have HF2 := Lib.hid (HF1.out.still hg2); clear HF1
  by_cases hc : conn N = true
  case neg =>
    have hc' : conn N = false := by simpa using hc
    rw [hc']
    have HC := Lib.hid hc'; clear hc hc'
    go_wp2_with fail
    go_ret2
    exact ⟨ret_bb (elNo (show elOk N = false by unfold elOk; rw [HG.out, HC.out]; rfl)).symm (show elOk N = false by unfold elOk; rw [HG.out, HC.out]; rfl).symm, (HF2.out.below_of hbA (by omega) (by omega))⟩
  rw [hc]
  have HC := Lib.hid hc; clear hc
  have HOK := Lib.hid (show elOk N = true by unfold elOk; rw [HG.out, HC.out]; rfl)
  have kbx1_0 : W2.cell? ⟨w.heap.size, 0, none⟩ = some (.slice A1 N.ends.length c1) := (HF2.out.boxN bx1 (by omega)).cell 0 (by simp)
  have kbx1_1 : W2.cell? ⟨w.heap.size, 1, none⟩ = some (.slice A1' N.ids.length c1') := (HF2.out.boxN bx1 (by omega)).cell 1 (by simp)
  have kbx1_2 : W2.cell? ⟨w.heap.size, 2, none⟩ = some (.slice A1'' N.inputs.length c1'') := (HF2.out.boxN bx1 (by omega)).cell 2 (by simp)
  go_wp2_with fail
  clear kbx1_0 kbx1_1 kbx1_2
  refine (stable_any _ N lo1 hi1 _ (Net.turned G1.out HF2.out (by omega) (by omega)) (by omega) HG.out).mono ?_
  rintro e W3 ⟨r, T, rfl, hE, hr, hb3⟩
  have HE := Lib.hid hE; clear hE
  have HR := Lib.hid hr; clear hr
  have hg3 := grown_below hb3; clear hb3
  have hs3 := hg3.size
  have HF3 := Lib.hid (HF2.out.still hg3); clear HF2
  have hlT := vat_length N T
  have HCM := Lib.hid (vat_mem N T)
  have HBQ := Lib.hid (elYes HOK.out HE.out)
  obtain ⟨a, HA⟩ : ∃ a, Hid (cnt1 (vat N T) = a) := ⟨_, Lib.hid rfl⟩
  rw [HA.out] at HBQ
  obtain ⟨ct, HCT⟩ : ∃ c, Hid (vat N T = c) := ⟨_, Lib.hid rfl⟩
  rw [HCT.out] at HR hlT HCM HA
  obtain ⟨Ac, cc, rfl, hcc, hdc⟩ := HR.out.dims
  rw [hlT] at hcc
  rw [hlT]
  obtain ⟨n, HNN⟩ : ∃ n, Hid (N.ends.length = n) := ⟨_, Lib.hid rfl⟩
  go_wp2_with (go_at_call 20; refine (classCount_any _ ct _ _ _ (by have := HR.out; rw [hlT] at this; exact this) (by omega) (fun x hx => (HCM.out x hx).1) (fun x hx => by have := (HCM.out x hx).2; omega)).mono ?_; rintro e w' ⟨rfl, rfl⟩; rw [cnt1_most (by omega) (fun x hx => (HCM.out x hx).1), HA.out])
  go_ret2
  exact ⟨ret_bb (by rw [HBQ.out]; rfl) HOK.out.symm, (HF3.out.below_of hbA (by omega) (by omega))⟩

end Go.Proofs.Ytjgmmmcmoaaiaaa
