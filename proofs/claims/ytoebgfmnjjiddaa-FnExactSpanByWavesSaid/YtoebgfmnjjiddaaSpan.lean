/-
  Contracts: two nodes of a tree that lie farthest from each other (program and reference).
-/
import Derived.Test.YtoebgfmnjjiddaaConn
import Derived.Test.YtoebgfmnjjiddaaWaveD
import Derived.Test.YtoebgfmnjjiddaaWave2
import Derived.Test.YtoebgfmnjjiddaaWave
import Derived.Test.YtoebgfmnjjiddaaComp
import Derived.Test.YtoebgfmnjjiddaaTreeI
namespace Go.Proofs.Ytoebgfmnjjiddaa
open Go.ChangeShapes Go.WideShapes Go.ChangeAt Go.RowKit
set_option linter.unusedVariables false

/-- the first place of the greatest of the first m numbers -/
def farN (l : List Int) : Nat → Nat
  | 0 => 0
  | m + 1 => if nth l (farN l m) < nth l m then m else farN l m
theorem farN_spec (l : List Int) : ∀ m, (m = 0 → farN l m = 0) ∧ (0 < m → farN l m < m) ∧ (∀ j, j < m → nth l j ≤ nth l (farN l m)) ∧ ∀ j, j < farN l m → nth l j < nth l (farN l m)
  | 0 => ⟨fun _ => rfl, fun h => absurd h (by omega), fun j hj => absurd hj (by omega), fun j hj => absurd hj (by show ¬ j < 0; omega)⟩
  | m + 1 => by
    obtain ⟨h0, h1, h2, h3⟩ := farN_spec l m
    rw [farN]
    by_cases c : nth l (farN l m) < nth l m
    · rw [if_pos c]
      refine ⟨fun h => absurd h (by omega), fun _ => by omega, fun j hj => ?_, fun j hj => ?_⟩
      · by_cases e : j = m
        · subst e; exact Int.le_refl _
        · have := h2 j (by omega); omega
      · have := h2 j hj; omega
    · rw [if_neg c]
      refine ⟨fun h => absurd h (by omega), fun _ => ?_, fun j hj => ?_, h3⟩
      · by_cases e : m = 0
        · have := h0 e; omega
        · have := h1 (by omega); omega
      · by_cases e : j = m
        · subst e; omega
        · exact h2 j (by omega)
theorem far_most {l : List Int} (h0 : 0 < l.length) (hp : ∀ x ∈ l, 0 ≤ x) : nth l (farN l l.length) = mostI l ∧ fidx (fun y => y == mostI l) l = farN l l.length := by
  obtain ⟨_, h1, h2, h3⟩ := farN_spec l l.length
  have ha := h1 h0
  obtain ⟨m0, m1, m2⟩ := mostI_spec l
  have hle := m1 _ (nth_mem ha)
  have e : nth l (farN l l.length) = mostI l := by
    rcases m2 with m2 | m2
    · have := hp _ (nth_mem ha); omega
    · obtain ⟨j, hj, ej⟩ := List.mem_iff_getElem.1 m2
      have := h2 j hj
      rw [nth_eq hj, ej] at this
      omega
  refine ⟨e, fidx_hit ha (by rw [e]; simp) fun j hj => ?_⟩
  have := h3 j hj
  simp; omega
theorem conn_dist {N : NetD} (hg : N.good = true) (hc : conn N = true) {u : Nat} (hu : u < N.ends.length) : ∀ x ∈ dist N u, 0 ≤ x := fun x hx => by
  have hn := good_nodes hg
  obtain ⟨j, hj, e⟩ := List.mem_iff_getElem.1 hx
  rw [dist_len hn hu] at hj
  rw [← e, ← nth_eq]
  have h0 : 0 < N.ends.length := by omega
  exact Reach.trans hg hu h0 hj (Reach.symm hg h0 hu (conn_way hg hc hu)) (conn_way hg hc hj)
def spanOk (N : NetD) : Bool := N.good && (conn N && decide (((edges N).length : Int) = (N.ends.length : Int) - 1))
def spU0 (N : NetD) : Nat := farN (dist N 0) N.ends.length
def spV0 (N : NetD) : Nat := farN (dist N (spU0 N)) N.ends.length
def spU (N : NetD) : Nat := if spanOk N = true then spU0 N else 0
def spV (N : NetD) : Nat := if spanOk N = true then spV0 N else 0
def spD (N : NetD) : Int := if spanOk N = true then nth (dist N (spU0 N)) (spV0 N) else 0
theorem spNo {N : NetD} (h : spanOk N = false) : spU N = 0 ∧ spV N = 0 ∧ spD N = 0 := by unfold spU spV spD; rw [h]; exact ⟨rfl, rfl, rfl⟩
theorem spYes {N : NetD} (h : spanOk N = true) : spU N = spU0 N ∧ spV N = spV0 N ∧ spD N = nth (dist N (spU0 N)) (spV0 N) := by unfold spU spV spD; rw [if_pos h, if_pos h, if_pos h]; exact ⟨rfl, rfl, rfl⟩
theorem far_lt {N : NetD} (hg : N.good = true) (u : Nat) (hu : u < N.ends.length) : farN (dist N u) N.ends.length < N.ends.length := (farN_spec _ _).2.1 (by omega)
theorem ret_iiib {a b c a' b' c' : Int} {d d' : Bool} (h1 : a = a') (h2 : b = b') (h3 : c = c') (h4 : d = d') : Ending.returned (.tuple #[.int .i64 a, .int .i64 b, .int .i64 c, .bool d]) = .returned (.tuple #[.int .i64 a', .int .i64 b', .int .i64 c', .bool d']) := by rw [h1, h2, h3, h4]
theorem ret_ii {a b a' b' : Int} (h1 : a = a') (h2 : b = b') : Ending.returned (.tuple #[.int .i64 a, .int .i64 b]) = .returned (.tuple #[.int .i64 a', .int .i64 b']) := by rw [h1, h2]

set_option maxHeartbeats 1000000 in
set_option maxRecDepth 100000 in
theorem deepest_any (v1 : Value) (N : NetD) (lo1 hi1 : Nat) (u : Nat) (w : World) (h1 : Net w lo1 hi1 v1 N) (hh1 : hi1 ≤ w.heap.size) (hg : N.good = true) (hc : conn N = true) (hu : u < N.ends.length) :
    Calls Try.prog 116 #[v1, .int .i64 (u : Nat)] w fun e w' => e = .returned (.tuple #[.int .i64 (farN (dist N u) N.ends.length : Nat), .int .i64 (nth (dist N u) (farN (dist N u) N.ends.length))]) ∧ Below w.heap.size w w' := by
  obtain ⟨n1, n40⟩ := good_n hg
  have HG := Lib.hid hg; clear hg
  have HDP := Lib.hid (conn_dist HG.out hc hu)
  have HDL := Lib.hid (dist_len (good_nodes HG.out) hu)
  have HFM := Lib.hid (far_most (l := dist N u) (by rw [HDL.out]; omega) HDP.out)
  clear hc
  have F1 := Lib.hid h1
  obtain ⟨A1, c1, A1', c1', A1'', c1'', rfl, hc1, hd1, _⟩ := h1.parts
  clear h1
  obtain ⟨WA, HWA⟩ : ∃ W, Hid (W = (w.alloc (.cells #[.slice A1 N.ends.length c1, .slice A1' N.ids.length c1', .slice A1'' N.inputs.length c1''] 33))) := ⟨_, Lib.hid rfl⟩
  have hbA : Below w.heap.size w WA := by rw [HWA.out]; exact ((Below.refl _ _).alloc (Nat.le_refl _) _)
  have hsA : w.heap.size + 1 ≤ WA.heap.size := by rw [HWA.out]; simp; try omega
  have bx1 : BoxN WA (w.heap.size) #[.slice A1 N.ends.length c1, .slice A1' N.ids.length c1', .slice A1'' N.inputs.length c1''] 33 := by rw [HWA.out]; exact (BoxN.new' _ _ _ (by simp))
  have G1 := Lib.hid (Net.below F1.out hbA hh1); clear F1
  go_enter Try.func116, Try.ntmps116
  go_upto_region 1 with (fail)
  rw [← HWA.out]; clear HWA
  have kbx1_0 : WA.cell? ⟨w.heap.size, 0, none⟩ = some (.slice A1 N.ends.length c1) := bx1.cell 0 (by simp)
  have kbx1_1 : WA.cell? ⟨w.heap.size, 1, none⟩ = some (.slice A1' N.ids.length c1') := bx1.cell 1 (by simp)
  have kbx1_2 : WA.cell? ⟨w.heap.size, 2, none⟩ = some (.slice A1'' N.inputs.length c1'') := bx1.cell 2 (by simp)
  go_wp2_with fail
  clear kbx1_0 kbx1_1 kbx1_2
  refine (distancesFrom_any _ N u lo1 hi1 _ G1.out (by omega) hu (by omega) (good_nodes HG.out) (fun u hu => by have := good_deg HG.out hu; omega)).mono ?_
  rintro e W1 ⟨r, rfl, hr, hb1⟩
  have hg1 := grown_below hb1; clear hb1
  have hs1 := hg1.size
  have HF1 := Lib.hid ((Turned.refl WA.heap.size WA.heap.size WA).still hg1)
  have R1 := Lib.hid hr; clear hr
  obtain ⟨Ar, cr, rfl, hcr, hdr⟩ := R1.out.dims
  obtain ⟨mx, HMX⟩ : ∃ m, Hid (mostI (dist N u) = m) := ⟨_, Lib.hid rfl⟩
  go_wp2_with (first | (go_at_call 128; refine (slicesMax_any _ (dist N u) _ _ _ R1.out (by rw [HDL.out]; omega) HDP.out).mono ?_; rintro e w' ⟨rfl, rfl⟩; rw [HMX.out]) | (go_at_call 168; refine (index_any _ (dist N u) _ _ _ _ R1.out).mono ?_; rintro e w' ⟨rfl, rfl⟩))
  go_ret2
  have h1 := HFM.out.1
  have h2 := HFM.out.2
  rw [HMX.out, HDL.out] at h1 h2
  exact ⟨ret_ii h2 h1.symm, (HF1.out.below_of hbA (by omega) (by omega))⟩

set_option maxHeartbeats 1000000 in
set_option maxRecDepth 100000 in
theorem biFar_any (v1 : Value) (l : List Int) (lo1 hi1 : Nat) (w : World) (h1 : IntS w lo1 hi1 v1 l) (hh1 : hi1 ≤ w.heap.size) (h0 : 0 < l.length) (hl : l.length ≤ 1048576) :
    Calls Try.prog 114 #[v1] w fun e w' => e = .returned (.int .i64 (farN l l.length : Nat)) ∧ w = w' := by
  have F1 := Lib.hid h1
  obtain ⟨A1, c1, rfl, hc1, hd1⟩ := h1.dims
  clear h1
  go_enter Try.func114, Try.ntmps114
  go_wp2_with fail
  go_loop [8, 3] (fun iv av => ∃ (m a : Nat), m ≤ l.length ∧ iv = .int .i64 m ∧ av = .int .i64 a ∧ a < l.length ∧ Hid (a = farN l m)) (fun iv av => l.length - (intOf iv).toNat)
  case atStart => exact ⟨0, 0, Nat.zero_le _, rfl, rfl, h0, Lib.hid rfl⟩
  case round =>
    obtain ⟨m, a, hm, rfl, rfl, ha, HA⟩ := hrel
    by_cases hlt : m < l.length
    case neg =>
      obtain rfl : m = l.length := by omega
      go_wp2_with fail
      go_ret
      exact ⟨ret_int (by rw [HA.out]), rfl⟩
    obtain ⟨b1, o1, rfl, _, _, x1, _⟩ := F1.out.opened (j := m) hlt
    obtain ⟨x2, _⟩ := IntS.at_ F1.out (j := a) ha
    have HST := Lib.hid (show farN l (m + 1) = if nth l a < nth l m then m else a by rw [farN, ← HA.out])
    obtain ⟨ym, HYM⟩ : ∃ y, Hid (nth l m = y) := ⟨_, Lib.hid rfl⟩
    obtain ⟨ya, HYA⟩ : ∃ y, Hid (nth l a = y) := ⟨_, Lib.hid rfl⟩
    rw [HYM.out] at x1 HST
    rw [HYA.out] at x2 HST
    have hai : (a : Int) < l.length := by omega
    by_cases hc : ya < ym
    case pos =>
      go_wp2_with fail
      go_round
      case rel => exact ⟨m + 1, m, by omega, by go_num, rfl, by omega, Lib.hid (by rw [HST.out, if_pos hc])⟩
      case measure => simp [intOf]; omega
    case neg =>
      go_wp2_with fail
      go_round
      case rel => exact ⟨m + 1, a, by omega, by go_num, rfl, by omega, Lib.hid (by rw [HST.out, if_neg hc])⟩
      case measure => simp [intOf]; omega

set_option maxHeartbeats 1000000 in
set_option maxRecDepth 100000 in
theorem SpanByWaves_impl (v1 : Value) (N : NetD) (lo1 hi1 : Nat) (w : World) (h1 : Net w lo1 hi1 v1 N) (hh1 : hi1 ≤ w.heap.size) (hz1 : N.sz ≤ 1048576) (ok1 : N.Ok) :
    Calls Try.prog 50 #[v1] w fun e w' => e = .returned (.tuple #[.int .i64 (spU N : Nat), .int .i64 (spV N : Nat), .int .i64 (spD N), .bool (spanOk N)]) ∧ Below w.heap.size w w' := by
  clear ok1
  have F1 := Lib.hid h1
  obtain ⟨A1, c1, A1', c1', A1'', c1'', rfl, hc1, hd1, _⟩ := h1.parts
  clear h1
  obtain ⟨WA, HWA⟩ : ∃ W, Hid (W = (w.alloc (.cells #[.slice A1 N.ends.length c1, .slice A1' N.ids.length c1', .slice A1'' N.inputs.length c1''] 33))) := ⟨_, Lib.hid rfl⟩
  have hbA : Below w.heap.size w WA := by rw [HWA.out]; exact ((Below.refl _ _).alloc (Nat.le_refl _) _)
  have hsA : w.heap.size + 1 ≤ WA.heap.size := by rw [HWA.out]; simp; try omega
  have bx1 : BoxN WA (w.heap.size) #[.slice A1 N.ends.length c1, .slice A1' N.ids.length c1', .slice A1'' N.inputs.length c1''] 33 := by rw [HWA.out]; exact (BoxN.new' _ _ _ (by simp))
  have G1 := Lib.hid (Net.below F1.out hbA hh1); clear F1
  go_enter Try.func50, Try.ntmps50
  go_upto_region 1 with (fail)
  rw [← HWA.out]; clear HWA
  go_wp2_with fail
  cases hg : N.good with
  | false =>
    have HG := Lib.hid hg; clear hg
    have HNO := Lib.hid (show spanOk N = false by unfold spanOk; rw [HG.out]; rfl)
    have ebx1_0 : ∀ p, (ext WA p).cell? ⟨w.heap.size, 0, none⟩ = some (.slice A1 N.ends.length c1) := ext_cell WA (a := ⟨w.heap.size, 0, none⟩) (bx1).lt (bx1.cell 0 (by simp))
    have ebx1_1 : ∀ p, (ext WA p).cell? ⟨w.heap.size, 1, none⟩ = some (.slice A1' N.ids.length c1') := ext_cell WA (a := ⟨w.heap.size, 1, none⟩) (bx1).lt (bx1.cell 1 (by simp))
    have ebx1_2 : ∀ p, (ext WA p).cell? ⟨w.heap.size, 2, none⟩ = some (.slice A1'' N.inputs.length c1'') := ext_cell WA (a := ⟨w.heap.size, 2, none⟩) (bx1).lt (bx1.cell 2 (by simp))
    refine wp_region_ext (by kernel_rfl) (by kernel_rfl) ?_
    repeat (go_big_quiet_step ((first | (go_at_call 70; exact ext_call ((IsNetwork_any _ N lo1 hi1 _ (Net.below G1.out (ext_below _ _) (by omega)) (Nat.le_trans (by omega) (ext_size _ _)) hz1).mono fun e w' ⟨he, hb⟩ => ⟨by rw [he, HG.out], hb⟩)))))
    refine wpQuiet_nil ?_
    rintro w1 ⟨p, rfl⟩
    clear ebx1_0 ebx1_1 ebx1_2
    obtain ⟨W1, HW1⟩ : ∃ W, Hid (W = ext WA p) := ⟨_, Lib.hid rfl⟩
    rw [← HW1.out]
    have hg1 : WA.grownBy W1 none := by rw [HW1.out]; exact grown_below (ext_below _ _)
    clear HW1
    have hs1 := hg1.size
    have HF1 := Lib.hid ((Turned.refl WA.heap.size WA.heap.size WA).still hg1)
    go_wp2_with fail
    ((try simp only [Exit.inBlock, Exit.then]); refine bodyPost_ret (results_tmp4 rfl _ _ _) rfl ?_)
    exact ⟨ret_iiib (by rw [(spNo (HNO.out)).1]; rfl) (by rw [(spNo (HNO.out)).2.1]; rfl) (spNo (HNO.out)).2.2.symm (HNO.out).symm, (HF1.out.below_of hbA (by omega) (by omega))⟩
  | true =>
    have HG := Lib.hid hg; clear hg
    obtain ⟨n1, n40⟩ := good_n HG.out
    cases hc : conn N with
    | false =>
      have HC := Lib.hid hc; clear hc
      have HNO := Lib.hid (show spanOk N = false by unfold spanOk; rw [HG.out, HC.out]; rfl)
      have ebx1_0 : ∀ p, (ext WA p).cell? ⟨w.heap.size, 0, none⟩ = some (.slice A1 N.ends.length c1) := ext_cell WA (a := ⟨w.heap.size, 0, none⟩) (bx1).lt (bx1.cell 0 (by simp))
      have ebx1_1 : ∀ p, (ext WA p).cell? ⟨w.heap.size, 1, none⟩ = some (.slice A1' N.ids.length c1') := ext_cell WA (a := ⟨w.heap.size, 1, none⟩) (bx1).lt (bx1.cell 1 (by simp))
      have ebx1_2 : ∀ p, (ext WA p).cell? ⟨w.heap.size, 2, none⟩ = some (.slice A1'' N.inputs.length c1'') := ext_cell WA (a := ⟨w.heap.size, 2, none⟩) (bx1).lt (bx1.cell 2 (by simp))
      refine wp_region_ext (by kernel_rfl) (by kernel_rfl) ?_
      repeat (go_big_quiet_step ((first | (go_at_call 70; exact ext_call ((IsNetwork_any _ N lo1 hi1 _ (Net.below G1.out (ext_below _ _) (by omega)) (Nat.le_trans (by omega) (ext_size _ _)) hz1).mono fun e w' ⟨he, hb⟩ => ⟨by rw [he, HG.out], hb⟩)) | (go_at_call 71; exact ext_call ((isConnected_any _ N lo1 hi1 _ (Net.below G1.out (ext_below _ _) (by omega)) (Nat.le_trans (by omega) (ext_size _ _)) HG.out).mono fun e w' ⟨he, hb⟩ => ⟨by rw [he, HC.out], hb⟩)))))
      refine wpQuiet_nil ?_
      rintro w1 ⟨p, rfl⟩
      clear ebx1_0 ebx1_1 ebx1_2
      obtain ⟨W2, HW2⟩ : ∃ W, Hid (W = ext WA p) := ⟨_, Lib.hid rfl⟩
      rw [← HW2.out]
      have hg2 : WA.grownBy W2 none := by rw [HW2.out]; exact grown_below (ext_below _ _)
      clear HW2
      have hs2 := hg2.size
      have HF2 := Lib.hid ((Turned.refl WA.heap.size WA.heap.size WA).still hg2)
      go_wp2_with fail
      ((try simp only [Exit.inBlock, Exit.then]); refine bodyPost_ret (results_tmp4 rfl _ _ _) rfl ?_)
      exact ⟨ret_iiib (by rw [(spNo (HNO.out)).1]; rfl) (by rw [(spNo (HNO.out)).2.1]; rfl) (spNo (HNO.out)).2.2.symm (HNO.out).symm, (HF2.out.below_of hbA (by omega) (by omega))⟩
    | true =>
      have HC := Lib.hid hc; clear hc
      have hwn : IntKind.i64.wrap ((N.ends.length : Int) - 1) = (N.ends.length : Int) - 1 := IntWalk.i64_in _ (by omega)
      refine wp_region_U (fun w' => w'.cell? ⟨w.heap.size, 0, none⟩ = some (.slice A1 N.ends.length c1) ∧ w'.cell? ⟨w.heap.size, 1, none⟩ = some (.slice A1' N.ids.length c1') ∧ w'.cell? ⟨w.heap.size, 2, none⟩ = some (.slice A1'' N.inputs.length c1'')) [] (by kernel_rfl) ?_
      refine nameU ?_
      intro W3 HW3
      have hg3 : WA.grownBy W3 none := by rw [HW3.out]; exact grown_drew _
      clear HW3
      have hs3 := hg3.size
      have HF3 := Lib.hid ((Turned.refl WA.heap.size WA.heap.size WA).still hg3)
      have hS4 : W3.cell? ⟨w.heap.size, 0, none⟩ = some (.slice A1 N.ends.length c1) ∧ W3.cell? ⟨w.heap.size, 1, none⟩ = some (.slice A1' N.ids.length c1') ∧ W3.cell? ⟨w.heap.size, 2, none⟩ = some (.slice A1'' N.inputs.length c1'') := ⟨(HF3.out.boxN bx1 (by omega)).cell 0 (by simp), (HF3.out.boxN bx1 (by omega)).cell 1 (by simp), (HF3.out.boxN bx1 (by omega)).cell 2 (by simp)⟩
      refine anyU_take (i := 0) (v := .agg #[.slice A1 N.ends.length c1, .slice A1' N.ids.length c1', .slice A1'' N.inputs.length c1'']) rfl (by kernel_rfl) (by kernel_rfl) (by kernel_rfl) (fun _ _ _ h => h) ⟨by rfl, fun w' hS' => (by obtain ⟨s1, s2, s3⟩ := hS'; go_simp)⟩ hS4 ?_
      simp only [List.getElem_toArray, List.getElem_cons_zero, Act.put, List.setIfInBounds_toArray, List.set_cons_zero, List.set_cons_succ]
      refine anyU_ready (rs := [1]) (by kernel_rfl) (by simp) ?_
      refine ReadyU.cons (i := 1) rfl (fun K hK => ?_) ReadyU.nil
      simp only [List.getElem_toArray, List.getElem_cons_succ, List.getElem_cons_zero]
      refine ite_is (by rfl) ?_
      simp [go_sem]
      refine (IsNetwork_any _ N lo1 hi1 _ (Net.turned G1.out HF3.out (by omega) (by omega)) (by omega) hz1).mono ?_
      rintro e W5 ⟨rfl, hb5⟩
      have hg5 := grown_below hb5; clear hb5
      have hs5 := hg5.size
      have HF5 := Lib.hid (HF3.out.still hg5); clear HF3
      rw [HG.out]
      have hS6 : W5.cell? ⟨w.heap.size, 0, none⟩ = some (.slice A1 N.ends.length c1) ∧ W5.cell? ⟨w.heap.size, 1, none⟩ = some (.slice A1' N.ids.length c1') ∧ W5.cell? ⟨w.heap.size, 2, none⟩ = some (.slice A1'' N.inputs.length c1'') := ⟨(HF5.out.boxN bx1 (by omega)).cell 0 (by simp), (HF5.out.boxN bx1 (by omega)).cell 1 (by simp), (HF5.out.boxN bx1 (by omega)).cell 2 (by simp)⟩
      refine hK.out _ _ ⟨fun _ => hS6, ?_⟩
      clear hK K hS4
      try simp only [List.getElem_toArray, List.getElem_cons_succ, List.getElem_cons_zero, Act.put, List.setIfInBounds_toArray, List.set_cons_zero, List.set_cons_succ]
      refine anyU_take (i := 2) (v := .bool false) rfl (by kernel_rfl) (by kernel_rfl) (by kernel_rfl) (fun _ _ _ h => h) ⟨by rfl, fun w' hS' => (by obtain ⟨s1, s2, s3⟩ := hS'; go_simp)⟩ hS6 ?_
      simp only [List.getElem_toArray, List.getElem_cons_succ, List.getElem_cons_zero, Act.put, List.setIfInBounds_toArray, List.set_cons_zero, List.set_cons_succ]
      refine anyU_take (i := 3) (v := .bool false) rfl (by kernel_rfl) (by kernel_rfl) (by kernel_rfl) (fun _ _ _ h => h) ⟨by rfl, fun w' hS' => (by obtain ⟨s1, s2, s3⟩ := hS'; go_simp)⟩ hS6 ?_
      simp only [List.getElem_toArray, List.getElem_cons_succ, List.getElem_cons_zero, Act.put, List.setIfInBounds_toArray, List.set_cons_zero, List.set_cons_succ]
      refine anyU_take (i := 4) (v := .agg #[.slice A1 N.ends.length c1, .slice A1' N.ids.length c1', .slice A1'' N.inputs.length c1'']) rfl (by kernel_rfl) (by kernel_rfl) (by kernel_rfl) (fun _ _ _ h => h) ⟨by rfl, fun w' hS' => (by obtain ⟨s1, s2, s3⟩ := hS'; go_simp)⟩ hS6 ?_
      simp only [List.getElem_toArray, List.getElem_cons_succ, List.getElem_cons_zero, Act.put, List.setIfInBounds_toArray, List.set_cons_zero, List.set_cons_succ]
      refine anyU_ready (rs := [5]) (by kernel_rfl) (by simp) ?_
      refine ReadyU.cons (i := 5) rfl (fun K hK => ?_) ReadyU.nil
      simp only [List.getElem_toArray, List.getElem_cons_succ, List.getElem_cons_zero]
      refine ite_is (by rfl) ?_
      simp [go_sem]
      refine (isConnected_any _ N lo1 hi1 _ (Net.turned G1.out HF5.out (by omega) (by omega)) (by omega) HG.out).mono ?_
      rintro e W7 ⟨rfl, hb7⟩
      have hg7 := grown_below hb7; clear hb7
      have hs7 := hg7.size
      have HF7 := Lib.hid (HF5.out.still hg7); clear HF5
      rw [HC.out]
      have hS8 : W7.cell? ⟨w.heap.size, 0, none⟩ = some (.slice A1 N.ends.length c1) ∧ W7.cell? ⟨w.heap.size, 1, none⟩ = some (.slice A1' N.ids.length c1') ∧ W7.cell? ⟨w.heap.size, 2, none⟩ = some (.slice A1'' N.inputs.length c1'') := ⟨(HF7.out.boxN bx1 (by omega)).cell 0 (by simp), (HF7.out.boxN bx1 (by omega)).cell 1 (by simp), (HF7.out.boxN bx1 (by omega)).cell 2 (by simp)⟩
      refine hK.out _ _ ⟨fun _ => hS8, ?_⟩
      clear hK K hS6
      try simp only [List.getElem_toArray, List.getElem_cons_succ, List.getElem_cons_zero, Act.put, List.setIfInBounds_toArray, List.set_cons_zero, List.set_cons_succ]
      refine anyU_take (i := 6) (v := .bool false) rfl (by kernel_rfl) (by kernel_rfl) (by kernel_rfl) (fun _ _ _ h => h) ⟨by rfl, fun w' hS' => (by obtain ⟨s1, s2, s3⟩ := hS'; go_simp)⟩ hS8 ?_
      simp only [List.getElem_toArray, List.getElem_cons_succ, List.getElem_cons_zero, Act.put, List.setIfInBounds_toArray, List.set_cons_zero, List.set_cons_succ]
      refine anyU_take (i := 7) (v := .bool false) rfl (by kernel_rfl) (by kernel_rfl) (by kernel_rfl) (fun _ _ _ h => h) ⟨by rfl, fun w' hS' => (by obtain ⟨s1, s2, s3⟩ := hS'; go_simp)⟩ hS8 ?_
      simp only [List.getElem_toArray, List.getElem_cons_succ, List.getElem_cons_zero, Act.put, List.setIfInBounds_toArray, List.set_cons_zero, List.set_cons_succ]
      refine anyU_take (i := 8) (v := .bool false) rfl (by kernel_rfl) (by kernel_rfl) (by kernel_rfl) (fun _ _ _ h => h) ⟨by rfl, fun w' hS' => (by obtain ⟨s1, s2, s3⟩ := hS'; go_simp)⟩ hS8 ?_
      simp only [List.getElem_toArray, List.getElem_cons_succ, List.getElem_cons_zero, Act.put, List.setIfInBounds_toArray, List.set_cons_zero, List.set_cons_succ]
      refine anyU_take (i := 9) (v := .agg #[.slice A1 N.ends.length c1, .slice A1' N.ids.length c1', .slice A1'' N.inputs.length c1'']) rfl (by kernel_rfl) (by kernel_rfl) (by kernel_rfl) (fun _ _ _ h => h) ⟨by rfl, fun w' hS' => (by obtain ⟨s1, s2, s3⟩ := hS'; go_simp)⟩ hS8 ?_
      simp only [List.getElem_toArray, List.getElem_cons_succ, List.getElem_cons_zero, Act.put, List.setIfInBounds_toArray, List.set_cons_zero, List.set_cons_succ]
      refine anyU_take (i := 12) (v := .pointer (some ⟨w.heap.size, 0, none⟩)) rfl (by kernel_rfl) (by kernel_rfl) (by kernel_rfl) (fun _ _ _ h => h) ⟨by rfl, fun w' hS' => (by obtain ⟨s1, s2, s3⟩ := hS'; go_simp)⟩ hS8 ?_
      simp only [List.getElem_toArray, List.getElem_cons_succ, List.getElem_cons_zero, Act.put, List.setIfInBounds_toArray, List.set_cons_zero, List.set_cons_succ]
      refine anyU_take (i := 13) (v := .slice A1 N.ends.length c1) rfl (by kernel_rfl) (by kernel_rfl) (by kernel_rfl) (fun _ _ _ h => h) ⟨by rfl, fun w' hS' => (by obtain ⟨s1, s2, s3⟩ := hS'; go_simp)⟩ hS8 ?_
      simp only [List.getElem_toArray, List.getElem_cons_succ, List.getElem_cons_zero, Act.put, List.setIfInBounds_toArray, List.set_cons_zero, List.set_cons_succ]
      refine anyU_take (i := 14) (v := .int .i64 N.ends.length) rfl (by kernel_rfl) (by kernel_rfl) (by kernel_rfl) (fun _ _ _ h => h) ⟨by rfl, fun w' hS' => (by obtain ⟨s1, s2, s3⟩ := hS'; go_simp)⟩ hS8 ?_
      simp only [List.getElem_toArray, List.getElem_cons_succ, List.getElem_cons_zero, Act.put, List.setIfInBounds_toArray, List.set_cons_zero, List.set_cons_succ]
      refine anyU_take (i := 15) (v := .int .i64 ((N.ends.length : Int) - 1)) rfl (by kernel_rfl) (by kernel_rfl) (by kernel_rfl) (fun _ _ _ h => h) ⟨by rfl, fun w' hS' => (by obtain ⟨s1, s2, s3⟩ := hS'; simp [go_sem, hwn])⟩ hS8 ?_
      simp only [List.getElem_toArray, List.getElem_cons_succ, List.getElem_cons_zero, Act.put, List.setIfInBounds_toArray, List.set_cons_zero, List.set_cons_succ]
      refine anyU_ready (rs := [10]) (by kernel_rfl) (by simp) ?_
      refine ReadyU.cons (i := 10) rfl (fun K hK => ?_) ReadyU.nil
      simp only [List.getElem_toArray, List.getElem_cons_succ, List.getElem_cons_zero]
      refine ite_is (by rfl) ?_
      simp [go_sem]
      refine (edges_any _ N lo1 hi1 _ (Net.turned G1.out HF7.out (by omega) (by omega)) (by omega) HG.out).mono ?_
      rintro e W9 ⟨r, rfl, hr, hb9⟩
      have hg9 := grown_below hb9; clear hb9
      have hs9 := hg9.size
      have HF9 := Lib.hid (HF7.out.still hg9); clear HF7
      have R9 := Lib.hid hr; clear hr
      have hS10 : W9.cell? ⟨w.heap.size, 0, none⟩ = some (.slice A1 N.ends.length c1) ∧ W9.cell? ⟨w.heap.size, 1, none⟩ = some (.slice A1' N.ids.length c1') ∧ W9.cell? ⟨w.heap.size, 2, none⟩ = some (.slice A1'' N.inputs.length c1'') := ⟨(HF9.out.boxN bx1 (by omega)).cell 0 (by simp), (HF9.out.boxN bx1 (by omega)).cell 1 (by simp), (HF9.out.boxN bx1 (by omega)).cell 2 (by simp)⟩
      refine hK.out _ _ ⟨fun _ => hS10, ?_⟩
      clear hK K hS8
      try simp only [List.getElem_toArray, List.getElem_cons_succ, List.getElem_cons_zero, Act.put, List.setIfInBounds_toArray, List.set_cons_zero, List.set_cons_succ]
      obtain ⟨Ar, cr, rfl, hcr, hdr⟩ := R9.out.dims
      obtain ⟨m, HM⟩ : ∃ m, Hid ((edges N).length = m) := ⟨_, Lib.hid rfl⟩
      rw [HM.out] at hcr ⊢
      by_cases hm : (m : Int) = (N.ends.length : Int) - 1
      case neg =>
        have hm' : ((m : Int) != (N.ends.length : Int) - 1) = true := by simpa using hm
        have HNO := Lib.hid (show spanOk N = false by unfold spanOk; rw [HG.out, HC.out, HM.out, decide_eq_false hm]; rfl)
        clear hm
        refine anyU_ready (rs := [11]) (by kernel_rfl) (by simp) ?_
        refine ReadyU.cons (i := 11) rfl (fun K hK => ?_) ReadyU.nil
        simp only [List.getElem_toArray, List.getElem_cons_succ, List.getElem_cons_zero]
        refine ite_is (by rfl) ?_
        simp [go_sem]
        refine hK.out _ _ ⟨fun _ => hS10, ?_⟩
        clear hK K
        try simp only [List.getElem_toArray, List.getElem_cons_succ, List.getElem_cons_zero, Act.put, List.setIfInBounds_toArray, List.set_cons_zero, List.set_cons_succ]
        refine anyU_ready (rs := [16]) (by kernel_rfl) (by simp) ?_
        refine ReadyU.cons (i := 16) rfl (fun K hK => ?_) ReadyU.nil
        simp only [List.getElem_toArray, List.getElem_cons_succ, List.getElem_cons_zero]
        refine ite_is (by rfl) ?_
        simp [go_sem, hm']
        refine hK.out _ _ ⟨fun _ => hS10, ?_⟩
        clear hK K
        try simp only [List.getElem_toArray, List.getElem_cons_succ, List.getElem_cons_zero, Act.put, List.setIfInBounds_toArray, List.set_cons_zero, List.set_cons_succ]
        refine anyU_ready (rs := [17]) (by kernel_rfl) (by simp) ?_
        refine ReadyU.cons (i := 17) rfl (fun K hK => ?_) ReadyU.nil
        simp only [List.getElem_toArray, List.getElem_cons_succ, List.getElem_cons_zero]
        refine ite_is (by rfl) ?_
        simp [go_sem]
        refine hK.out _ _ ⟨fun _ => hS10, ?_⟩
        clear hK K
        try simp only [List.getElem_toArray, List.getElem_cons_succ, List.getElem_cons_zero, Act.put, List.setIfInBounds_toArray, List.set_cons_zero, List.set_cons_succ]
        clear hS10
        refine anyU_done (by kernel_rfl) ?_ _
        go_wp2_with fail
        ((try simp only [Exit.inBlock, Exit.then]); refine bodyPost_ret (results_tmp4 rfl _ _ _) rfl ?_)
        exact ⟨ret_iiib (by rw [(spNo (HNO.out)).1]; rfl) (by rw [(spNo (HNO.out)).2.1]; rfl) (spNo (HNO.out)).2.2.symm (HNO.out).symm, (HF9.out.below_of hbA (by omega) (by omega))⟩
      have hm' : ((m : Int) != (N.ends.length : Int) - 1) = false := by simp [hm]
      have HOK := Lib.hid (show spanOk N = true by unfold spanOk; rw [HG.out, HC.out, HM.out, decide_eq_true hm]; rfl)
      clear hm
      refine anyU_ready (rs := [11]) (by kernel_rfl) (by simp) ?_
      refine ReadyU.cons (i := 11) rfl (fun K hK => ?_) ReadyU.nil
      simp only [List.getElem_toArray, List.getElem_cons_succ, List.getElem_cons_zero]
      refine ite_is (by rfl) ?_
      simp [go_sem]
      refine hK.out _ _ ⟨fun _ => hS10, ?_⟩
      clear hK K
      try simp only [List.getElem_toArray, List.getElem_cons_succ, List.getElem_cons_zero, Act.put, List.setIfInBounds_toArray, List.set_cons_zero, List.set_cons_succ]
      refine anyU_ready (rs := [16]) (by kernel_rfl) (by simp) ?_
      refine ReadyU.cons (i := 16) rfl (fun K hK => ?_) ReadyU.nil
      simp only [List.getElem_toArray, List.getElem_cons_succ, List.getElem_cons_zero]
      refine ite_is (by rfl) ?_
      simp [go_sem, hm']
      refine hK.out _ _ ⟨fun _ => hS10, ?_⟩
      clear hK K
      try simp only [List.getElem_toArray, List.getElem_cons_succ, List.getElem_cons_zero, Act.put, List.setIfInBounds_toArray, List.set_cons_zero, List.set_cons_succ]
      refine anyU_ready (rs := [17]) (by kernel_rfl) (by simp) ?_
      refine ReadyU.cons (i := 17) rfl (fun K hK => ?_) ReadyU.nil
      simp only [List.getElem_toArray, List.getElem_cons_succ, List.getElem_cons_zero]
      refine ite_is (by rfl) ?_
      simp [go_sem]
      refine hK.out _ _ ⟨fun _ => hS10, ?_⟩
      clear hK K
      try simp only [List.getElem_toArray, List.getElem_cons_succ, List.getElem_cons_zero, Act.put, List.setIfInBounds_toArray, List.set_cons_zero, List.set_cons_succ]
      clear hS10
      refine anyU_done (by kernel_rfl) ?_ _
      have hu0 : spU0 N < N.ends.length := far_lt HG.out 0 (by omega)
      have hv0 : spV0 N < N.ends.length := far_lt HG.out _ hu0
      obtain ⟨u, HU⟩ : ∃ u, Hid (spU0 N = u) := ⟨_, Lib.hid rfl⟩
      obtain ⟨v, HV⟩ : ∃ u, Hid (spV0 N = u) := ⟨_, Lib.hid rfl⟩
      rw [HU.out] at hu0
      rw [HV.out] at hv0
      have kbx1_0 : W9.cell? ⟨w.heap.size, 0, none⟩ = some (.slice A1 N.ends.length c1) := (HF9.out.boxN bx1 (by omega)).cell 0 (by simp)
      have kbx1_1 : W9.cell? ⟨w.heap.size, 1, none⟩ = some (.slice A1' N.ids.length c1') := (HF9.out.boxN bx1 (by omega)).cell 1 (by simp)
      have kbx1_2 : W9.cell? ⟨w.heap.size, 2, none⟩ = some (.slice A1'' N.inputs.length c1'') := (HF9.out.boxN bx1 (by omega)).cell 2 (by simp)
      go_wp2_with fail
      clear kbx1_0 kbx1_1 kbx1_2
      refine (deepest_any _ N lo1 hi1 0 _ (Net.turned G1.out HF9.out (by omega) (by omega)) (by omega) HG.out HC.out (by omega)).mono ?_
      rintro e W11 ⟨rfl, hb11⟩
      have hg11 := grown_below hb11; clear hb11
      have hs11 := hg11.size
      have HF11 := Lib.hid (HF9.out.still hg11); clear HF9
      rw [show farN (dist N 0) N.ends.length = u from HU.out]
      have kbx1_0 : W11.cell? ⟨w.heap.size, 0, none⟩ = some (.slice A1 N.ends.length c1) := (HF11.out.boxN bx1 (by omega)).cell 0 (by simp)
      have kbx1_1 : W11.cell? ⟨w.heap.size, 1, none⟩ = some (.slice A1' N.ids.length c1') := (HF11.out.boxN bx1 (by omega)).cell 1 (by simp)
      have kbx1_2 : W11.cell? ⟨w.heap.size, 2, none⟩ = some (.slice A1'' N.inputs.length c1'') := (HF11.out.boxN bx1 (by omega)).cell 2 (by simp)
      go_wp2_with fail
      clear kbx1_0 kbx1_1 kbx1_2
      refine (deepest_any _ N lo1 hi1 u _ (Net.turned G1.out HF11.out (by omega) (by omega)) (by omega) HG.out HC.out hu0).mono ?_
      rintro e W12 ⟨rfl, hb12⟩
      have hg12 := grown_below hb12; clear hb12
      have hs12 := hg12.size
      have HF12 := Lib.hid (HF11.out.still hg12); clear HF11
      rw [show farN (dist N u) N.ends.length = v by rw [← HU.out]; exact HV.out]
      go_wp2_with fail
      ((try simp only [Exit.inBlock, Exit.then]); refine bodyPost_ret (results_tmp4 rfl _ _ _) rfl ?_)
      exact ⟨ret_iiib (by rw [(spYes HOK.out).1, HU.out]) (by rw [(spYes HOK.out).2.1, HV.out]) (by rw [(spYes HOK.out).2.2, HU.out, HV.out]) HOK.out.symm, (HF12.out.below_of hbA (by omega) (by omega))⟩

set_option maxHeartbeats 1000000 in
set_option maxRecDepth 100000 in
theorem SpanByWaves_spec (v1 : Value) (N : NetD) (lo1 hi1 : Nat) (w : World) (h1 : Net w lo1 hi1 v1 N) (hh1 : hi1 ≤ w.heap.size) (hz1 : N.sz ≤ 1048576) (ok1 : N.Ok) :
    Calls Try.prog 49 #[v1] w fun e w' => e = .returned (.tuple #[.int .i64 (spU N : Nat), .int .i64 (spV N : Nat), .int .i64 (spD N), .bool (spanOk N)]) ∧ Below w.heap.size w w' := by
  clear ok1
  have F1 := Lib.hid h1
  obtain ⟨A1, c1, A1', c1', A1'', c1'', rfl, hc1, hd1, _⟩ := h1.parts
  clear h1
  obtain ⟨WA, HWA⟩ : ∃ W, Hid (W = (w.alloc (.cells #[.slice A1 N.ends.length c1, .slice A1' N.ids.length c1', .slice A1'' N.inputs.length c1''] 33))) := ⟨_, Lib.hid rfl⟩
  have hbA : Below w.heap.size w WA := by rw [HWA.out]; exact ((Below.refl _ _).alloc (Nat.le_refl _) _)
  have hsA : w.heap.size + 1 ≤ WA.heap.size := by rw [HWA.out]; simp; try omega
  have bx1 : BoxN WA (w.heap.size) #[.slice A1 N.ends.length c1, .slice A1' N.ids.length c1', .slice A1'' N.inputs.length c1''] 33 := by rw [HWA.out]; exact (BoxN.new' _ _ _ (by simp))
  have G1 := Lib.hid (Net.below F1.out hbA hh1); clear F1
  go_enter Try.func49, Try.ntmps49
  go_upto_region 1 with (fail)
  rw [← HWA.out]; clear HWA
  go_wp2_with fail
  cases hg : N.good with
  | false =>
    have HG := Lib.hid hg; clear hg
    have HNO := Lib.hid (show spanOk N = false by unfold spanOk; rw [HG.out]; rfl)
    have ebx1_0 : ∀ p, (ext WA p).cell? ⟨w.heap.size, 0, none⟩ = some (.slice A1 N.ends.length c1) := ext_cell WA (a := ⟨w.heap.size, 0, none⟩) (bx1).lt (bx1.cell 0 (by simp))
    have ebx1_1 : ∀ p, (ext WA p).cell? ⟨w.heap.size, 1, none⟩ = some (.slice A1' N.ids.length c1') := ext_cell WA (a := ⟨w.heap.size, 1, none⟩) (bx1).lt (bx1.cell 1 (by simp))
    have ebx1_2 : ∀ p, (ext WA p).cell? ⟨w.heap.size, 2, none⟩ = some (.slice A1'' N.inputs.length c1'') := ext_cell WA (a := ⟨w.heap.size, 2, none⟩) (bx1).lt (bx1.cell 2 (by simp))
    refine wp_region_ext (by kernel_rfl) (by kernel_rfl) ?_
    repeat (go_big_quiet_step ((first | (go_at_call 66; exact ext_call ((neGood_any _ N lo1 hi1 _ (Net.below G1.out (ext_below _ _) (by omega)) (Nat.le_trans (by omega) (ext_size _ _)) hz1).mono fun e w' ⟨he, hb⟩ => ⟨by rw [he, HG.out], hb⟩)))))
    refine wpQuiet_nil ?_
    rintro w1 ⟨p, rfl⟩
    clear ebx1_0 ebx1_1 ebx1_2
    obtain ⟨W1, HW1⟩ : ∃ W, Hid (W = ext WA p) := ⟨_, Lib.hid rfl⟩
    rw [← HW1.out]
    have hg1 : WA.grownBy W1 none := by rw [HW1.out]; exact grown_below (ext_below _ _)
    clear HW1
    have hs1 := hg1.size
    have HF1 := Lib.hid ((Turned.refl WA.heap.size WA.heap.size WA).still hg1)
    go_wp2_with fail
    ((try simp only [Exit.inBlock, Exit.then]); refine bodyPost_ret (results_tmp4 rfl _ _ _) rfl ?_)
    exact ⟨ret_iiib (by rw [(spNo (HNO.out)).1]; rfl) (by rw [(spNo (HNO.out)).2.1]; rfl) (spNo (HNO.out)).2.2.symm (HNO.out).symm, (HF1.out.below_of hbA (by omega) (by omega))⟩
  | true =>
    have HG := Lib.hid hg; clear hg
    obtain ⟨n1, n40⟩ := good_n HG.out
    cases hc : conn N with
    | false =>
      have HC := Lib.hid hc; clear hc
      have HNO := Lib.hid (show spanOk N = false by unfold spanOk; rw [HG.out, HC.out]; rfl)
      have ebx1_0 : ∀ p, (ext WA p).cell? ⟨w.heap.size, 0, none⟩ = some (.slice A1 N.ends.length c1) := ext_cell WA (a := ⟨w.heap.size, 0, none⟩) (bx1).lt (bx1.cell 0 (by simp))
      have ebx1_1 : ∀ p, (ext WA p).cell? ⟨w.heap.size, 1, none⟩ = some (.slice A1' N.ids.length c1') := ext_cell WA (a := ⟨w.heap.size, 1, none⟩) (bx1).lt (bx1.cell 1 (by simp))
      have ebx1_2 : ∀ p, (ext WA p).cell? ⟨w.heap.size, 2, none⟩ = some (.slice A1'' N.inputs.length c1'') := ext_cell WA (a := ⟨w.heap.size, 2, none⟩) (bx1).lt (bx1.cell 2 (by simp))
      refine wp_region_ext (by kernel_rfl) (by kernel_rfl) ?_
      repeat (go_big_quiet_step ((first | (go_at_call 66; exact ext_call ((neGood_any _ N lo1 hi1 _ (Net.below G1.out (ext_below _ _) (by omega)) (Nat.le_trans (by omega) (ext_size _ _)) hz1).mono fun e w' ⟨he, hb⟩ => ⟨by rw [he, HG.out], hb⟩)) | (go_at_call 67; exact ext_call ((coConnected_any _ N lo1 hi1 _ (Net.below G1.out (ext_below _ _) (by omega)) (Nat.le_trans (by omega) (ext_size _ _)) HG.out).mono fun e w' ⟨he, hb⟩ => ⟨by rw [he, HC.out], hb⟩)))))
      refine wpQuiet_nil ?_
      rintro w1 ⟨p, rfl⟩
      clear ebx1_0 ebx1_1 ebx1_2
      obtain ⟨W2, HW2⟩ : ∃ W, Hid (W = ext WA p) := ⟨_, Lib.hid rfl⟩
      rw [← HW2.out]
      have hg2 : WA.grownBy W2 none := by rw [HW2.out]; exact grown_below (ext_below _ _)
      clear HW2
      have hs2 := hg2.size
      have HF2 := Lib.hid ((Turned.refl WA.heap.size WA.heap.size WA).still hg2)
      go_wp2_with fail
      ((try simp only [Exit.inBlock, Exit.then]); refine bodyPost_ret (results_tmp4 rfl _ _ _) rfl ?_)
      exact ⟨ret_iiib (by rw [(spNo (HNO.out)).1]; rfl) (by rw [(spNo (HNO.out)).2.1]; rfl) (spNo (HNO.out)).2.2.symm (HNO.out).symm, (HF2.out.below_of hbA (by omega) (by omega))⟩
    | true =>
      have HC := Lib.hid hc; clear hc
      have hwn : IntKind.i64.wrap ((N.ends.length : Int) - 1) = (N.ends.length : Int) - 1 := IntWalk.i64_in _ (by omega)
      refine wp_region_U (fun w' => w'.cell? ⟨w.heap.size, 0, none⟩ = some (.slice A1 N.ends.length c1) ∧ w'.cell? ⟨w.heap.size, 1, none⟩ = some (.slice A1' N.ids.length c1') ∧ w'.cell? ⟨w.heap.size, 2, none⟩ = some (.slice A1'' N.inputs.length c1'')) [] (by kernel_rfl) ?_
      refine nameU ?_
      intro W3 HW3
      have hg3 : WA.grownBy W3 none := by rw [HW3.out]; exact grown_drew _
      clear HW3
      have hs3 := hg3.size
      have HF3 := Lib.hid ((Turned.refl WA.heap.size WA.heap.size WA).still hg3)
      have hS4 : W3.cell? ⟨w.heap.size, 0, none⟩ = some (.slice A1 N.ends.length c1) ∧ W3.cell? ⟨w.heap.size, 1, none⟩ = some (.slice A1' N.ids.length c1') ∧ W3.cell? ⟨w.heap.size, 2, none⟩ = some (.slice A1'' N.inputs.length c1'') := ⟨(HF3.out.boxN bx1 (by omega)).cell 0 (by simp), (HF3.out.boxN bx1 (by omega)).cell 1 (by simp), (HF3.out.boxN bx1 (by omega)).cell 2 (by simp)⟩
      refine anyU_take (i := 0) (v := .agg #[.slice A1 N.ends.length c1, .slice A1' N.ids.length c1', .slice A1'' N.inputs.length c1'']) rfl (by kernel_rfl) (by kernel_rfl) (by kernel_rfl) (fun _ _ _ h => h) ⟨by rfl, fun w' hS' => (by obtain ⟨s1, s2, s3⟩ := hS'; go_simp)⟩ hS4 ?_
      simp only [List.getElem_toArray, List.getElem_cons_zero, Act.put, List.setIfInBounds_toArray, List.set_cons_zero, List.set_cons_succ]
      refine anyU_ready (rs := [1]) (by kernel_rfl) (by simp) ?_
      refine ReadyU.cons (i := 1) rfl (fun K hK => ?_) ReadyU.nil
      simp only [List.getElem_toArray, List.getElem_cons_succ, List.getElem_cons_zero]
      refine ite_is (by rfl) ?_
      simp [go_sem]
      refine (neGood_any _ N lo1 hi1 _ (Net.turned G1.out HF3.out (by omega) (by omega)) (by omega) hz1).mono ?_
      rintro e W5 ⟨rfl, hb5⟩
      have hg5 := grown_below hb5; clear hb5
      have hs5 := hg5.size
      have HF5 := Lib.hid (HF3.out.still hg5); clear HF3
      rw [HG.out]
      have hS6 : W5.cell? ⟨w.heap.size, 0, none⟩ = some (.slice A1 N.ends.length c1) ∧ W5.cell? ⟨w.heap.size, 1, none⟩ = some (.slice A1' N.ids.length c1') ∧ W5.cell? ⟨w.heap.size, 2, none⟩ = some (.slice A1'' N.inputs.length c1'') := ⟨(HF5.out.boxN bx1 (by omega)).cell 0 (by simp), (HF5.out.boxN bx1 (by omega)).cell 1 (by simp), (HF5.out.boxN bx1 (by omega)).cell 2 (by simp)⟩
      refine hK.out _ _ ⟨fun _ => hS6, ?_⟩
      clear hK K hS4
      try simp only [List.getElem_toArray, List.getElem_cons_succ, List.getElem_cons_zero, Act.put, List.setIfInBounds_toArray, List.set_cons_zero, List.set_cons_succ]
      refine anyU_take (i := 2) (v := .bool false) rfl (by kernel_rfl) (by kernel_rfl) (by kernel_rfl) (fun _ _ _ h => h) ⟨by rfl, fun w' hS' => (by obtain ⟨s1, s2, s3⟩ := hS'; go_simp)⟩ hS6 ?_
      simp only [List.getElem_toArray, List.getElem_cons_succ, List.getElem_cons_zero, Act.put, List.setIfInBounds_toArray, List.set_cons_zero, List.set_cons_succ]
      refine anyU_take (i := 3) (v := .bool false) rfl (by kernel_rfl) (by kernel_rfl) (by kernel_rfl) (fun _ _ _ h => h) ⟨by rfl, fun w' hS' => (by obtain ⟨s1, s2, s3⟩ := hS'; go_simp)⟩ hS6 ?_
      simp only [List.getElem_toArray, List.getElem_cons_succ, List.getElem_cons_zero, Act.put, List.setIfInBounds_toArray, List.set_cons_zero, List.set_cons_succ]
      refine anyU_take (i := 4) (v := .agg #[.slice A1 N.ends.length c1, .slice A1' N.ids.length c1', .slice A1'' N.inputs.length c1'']) rfl (by kernel_rfl) (by kernel_rfl) (by kernel_rfl) (fun _ _ _ h => h) ⟨by rfl, fun w' hS' => (by obtain ⟨s1, s2, s3⟩ := hS'; go_simp)⟩ hS6 ?_
      simp only [List.getElem_toArray, List.getElem_cons_succ, List.getElem_cons_zero, Act.put, List.setIfInBounds_toArray, List.set_cons_zero, List.set_cons_succ]
      refine anyU_ready (rs := [5]) (by kernel_rfl) (by simp) ?_
      refine ReadyU.cons (i := 5) rfl (fun K hK => ?_) ReadyU.nil
      simp only [List.getElem_toArray, List.getElem_cons_succ, List.getElem_cons_zero]
      refine ite_is (by rfl) ?_
      simp [go_sem]
      refine (coConnected_any _ N lo1 hi1 _ (Net.turned G1.out HF5.out (by omega) (by omega)) (by omega) HG.out).mono ?_
      rintro e W7 ⟨rfl, hb7⟩
      have hg7 := grown_below hb7; clear hb7
      have hs7 := hg7.size
      have HF7 := Lib.hid (HF5.out.still hg7); clear HF5
      rw [HC.out]
      have hS8 : W7.cell? ⟨w.heap.size, 0, none⟩ = some (.slice A1 N.ends.length c1) ∧ W7.cell? ⟨w.heap.size, 1, none⟩ = some (.slice A1' N.ids.length c1') ∧ W7.cell? ⟨w.heap.size, 2, none⟩ = some (.slice A1'' N.inputs.length c1'') := ⟨(HF7.out.boxN bx1 (by omega)).cell 0 (by simp), (HF7.out.boxN bx1 (by omega)).cell 1 (by simp), (HF7.out.boxN bx1 (by omega)).cell 2 (by simp)⟩
      refine hK.out _ _ ⟨fun _ => hS8, ?_⟩
      clear hK K hS6
      try simp only [List.getElem_toArray, List.getElem_cons_succ, List.getElem_cons_zero, Act.put, List.setIfInBounds_toArray, List.set_cons_zero, List.set_cons_succ]
      refine anyU_take (i := 6) (v := .bool false) rfl (by kernel_rfl) (by kernel_rfl) (by kernel_rfl) (fun _ _ _ h => h) ⟨by rfl, fun w' hS' => (by obtain ⟨s1, s2, s3⟩ := hS'; go_simp)⟩ hS8 ?_
      simp only [List.getElem_toArray, List.getElem_cons_succ, List.getElem_cons_zero, Act.put, List.setIfInBounds_toArray, List.set_cons_zero, List.set_cons_succ]
      refine anyU_take (i := 7) (v := .bool false) rfl (by kernel_rfl) (by kernel_rfl) (by kernel_rfl) (fun _ _ _ h => h) ⟨by rfl, fun w' hS' => (by obtain ⟨s1, s2, s3⟩ := hS'; go_simp)⟩ hS8 ?_
      simp only [List.getElem_toArray, List.getElem_cons_succ, List.getElem_cons_zero, Act.put, List.setIfInBounds_toArray, List.set_cons_zero, List.set_cons_succ]
      refine anyU_take (i := 8) (v := .bool false) rfl (by kernel_rfl) (by kernel_rfl) (by kernel_rfl) (fun _ _ _ h => h) ⟨by rfl, fun w' hS' => (by obtain ⟨s1, s2, s3⟩ := hS'; go_simp)⟩ hS8 ?_
      simp only [List.getElem_toArray, List.getElem_cons_succ, List.getElem_cons_zero, Act.put, List.setIfInBounds_toArray, List.set_cons_zero, List.set_cons_succ]
      refine anyU_take (i := 9) (v := .agg #[.slice A1 N.ends.length c1, .slice A1' N.ids.length c1', .slice A1'' N.inputs.length c1'']) rfl (by kernel_rfl) (by kernel_rfl) (by kernel_rfl) (fun _ _ _ h => h) ⟨by rfl, fun w' hS' => (by obtain ⟨s1, s2, s3⟩ := hS'; go_simp)⟩ hS8 ?_
      simp only [List.getElem_toArray, List.getElem_cons_succ, List.getElem_cons_zero, Act.put, List.setIfInBounds_toArray, List.set_cons_zero, List.set_cons_succ]
      refine anyU_take (i := 12) (v := .pointer (some ⟨w.heap.size, 0, none⟩)) rfl (by kernel_rfl) (by kernel_rfl) (by kernel_rfl) (fun _ _ _ h => h) ⟨by rfl, fun w' hS' => (by obtain ⟨s1, s2, s3⟩ := hS'; go_simp)⟩ hS8 ?_
      simp only [List.getElem_toArray, List.getElem_cons_succ, List.getElem_cons_zero, Act.put, List.setIfInBounds_toArray, List.set_cons_zero, List.set_cons_succ]
      refine anyU_take (i := 13) (v := .slice A1 N.ends.length c1) rfl (by kernel_rfl) (by kernel_rfl) (by kernel_rfl) (fun _ _ _ h => h) ⟨by rfl, fun w' hS' => (by obtain ⟨s1, s2, s3⟩ := hS'; go_simp)⟩ hS8 ?_
      simp only [List.getElem_toArray, List.getElem_cons_succ, List.getElem_cons_zero, Act.put, List.setIfInBounds_toArray, List.set_cons_zero, List.set_cons_succ]
      refine anyU_take (i := 14) (v := .int .i64 N.ends.length) rfl (by kernel_rfl) (by kernel_rfl) (by kernel_rfl) (fun _ _ _ h => h) ⟨by rfl, fun w' hS' => (by obtain ⟨s1, s2, s3⟩ := hS'; go_simp)⟩ hS8 ?_
      simp only [List.getElem_toArray, List.getElem_cons_succ, List.getElem_cons_zero, Act.put, List.setIfInBounds_toArray, List.set_cons_zero, List.set_cons_succ]
      refine anyU_take (i := 15) (v := .int .i64 ((N.ends.length : Int) - 1)) rfl (by kernel_rfl) (by kernel_rfl) (by kernel_rfl) (fun _ _ _ h => h) ⟨by rfl, fun w' hS' => (by obtain ⟨s1, s2, s3⟩ := hS'; simp [go_sem, hwn])⟩ hS8 ?_
      simp only [List.getElem_toArray, List.getElem_cons_succ, List.getElem_cons_zero, Act.put, List.setIfInBounds_toArray, List.set_cons_zero, List.set_cons_succ]
      refine anyU_ready (rs := [10]) (by kernel_rfl) (by simp) ?_
      refine ReadyU.cons (i := 10) rfl (fun K hK => ?_) ReadyU.nil
      simp only [List.getElem_toArray, List.getElem_cons_succ, List.getElem_cons_zero]
      refine ite_is (by rfl) ?_
      simp [go_sem]
      refine (neEdges_any _ N lo1 hi1 _ (Net.turned G1.out HF7.out (by omega) (by omega)) (by omega) HG.out).mono ?_
      rintro e W9 ⟨r, rfl, hr, hb9⟩
      have hg9 := grown_below hb9; clear hb9
      have hs9 := hg9.size
      have HF9 := Lib.hid (HF7.out.still hg9); clear HF7
      have R9 := Lib.hid hr; clear hr
      have hS10 : W9.cell? ⟨w.heap.size, 0, none⟩ = some (.slice A1 N.ends.length c1) ∧ W9.cell? ⟨w.heap.size, 1, none⟩ = some (.slice A1' N.ids.length c1') ∧ W9.cell? ⟨w.heap.size, 2, none⟩ = some (.slice A1'' N.inputs.length c1'') := ⟨(HF9.out.boxN bx1 (by omega)).cell 0 (by simp), (HF9.out.boxN bx1 (by omega)).cell 1 (by simp), (HF9.out.boxN bx1 (by omega)).cell 2 (by simp)⟩
      refine hK.out _ _ ⟨fun _ => hS10, ?_⟩
      clear hK K hS8
      try simp only [List.getElem_toArray, List.getElem_cons_succ, List.getElem_cons_zero, Act.put, List.setIfInBounds_toArray, List.set_cons_zero, List.set_cons_succ]
      obtain ⟨Ar, cr, rfl, hcr, hdr⟩ : ∃ A c, r = .slice A ((edges N).map Quad.ints).length c ∧ ((edges N).map Quad.ints).length ≤ c ∧ c ≤ 9223372036854775807 := by
        obtain ⟨vs, ⟨A, c, e, h1, h2, _⟩, _⟩ := R9.out
        unfold maxLen at h2
        exact ⟨A, c, e, h1, h2⟩
      rw [List.length_map] at hcr
      try simp only [List.length_map]
      obtain ⟨m, HM⟩ : ∃ m, Hid ((edges N).length = m) := ⟨_, Lib.hid rfl⟩
      rw [HM.out] at hcr ⊢
      by_cases hm : (m : Int) = (N.ends.length : Int) - 1
      case neg =>
        have hm' : ((m : Int) != (N.ends.length : Int) - 1) = true := by simpa using hm
        have HNO := Lib.hid (show spanOk N = false by unfold spanOk; rw [HG.out, HC.out, HM.out, decide_eq_false hm]; rfl)
        clear hm
        refine anyU_ready (rs := [11]) (by kernel_rfl) (by simp) ?_
        refine ReadyU.cons (i := 11) rfl (fun K hK => ?_) ReadyU.nil
        simp only [List.getElem_toArray, List.getElem_cons_succ, List.getElem_cons_zero]
        refine ite_is (by rfl) ?_
        simp [go_sem]
        refine hK.out _ _ ⟨fun _ => hS10, ?_⟩
        clear hK K
        try simp only [List.getElem_toArray, List.getElem_cons_succ, List.getElem_cons_zero, Act.put, List.setIfInBounds_toArray, List.set_cons_zero, List.set_cons_succ]
        refine anyU_ready (rs := [16]) (by kernel_rfl) (by simp) ?_
        refine ReadyU.cons (i := 16) rfl (fun K hK => ?_) ReadyU.nil
        simp only [List.getElem_toArray, List.getElem_cons_succ, List.getElem_cons_zero]
        refine ite_is (by rfl) ?_
        simp [go_sem, hm']
        refine hK.out _ _ ⟨fun _ => hS10, ?_⟩
        clear hK K
        try simp only [List.getElem_toArray, List.getElem_cons_succ, List.getElem_cons_zero, Act.put, List.setIfInBounds_toArray, List.set_cons_zero, List.set_cons_succ]
        refine anyU_ready (rs := [17]) (by kernel_rfl) (by simp) ?_
        refine ReadyU.cons (i := 17) rfl (fun K hK => ?_) ReadyU.nil
        simp only [List.getElem_toArray, List.getElem_cons_succ, List.getElem_cons_zero]
        refine ite_is (by rfl) ?_
        simp [go_sem]
        refine hK.out _ _ ⟨fun _ => hS10, ?_⟩
        clear hK K
        try simp only [List.getElem_toArray, List.getElem_cons_succ, List.getElem_cons_zero, Act.put, List.setIfInBounds_toArray, List.set_cons_zero, List.set_cons_succ]
        clear hS10
        refine anyU_done (by kernel_rfl) ?_ _
        go_wp2_with fail
        ((try simp only [Exit.inBlock, Exit.then]); refine bodyPost_ret (results_tmp4 rfl _ _ _) rfl ?_)
        exact ⟨ret_iiib (by rw [(spNo (HNO.out)).1]; rfl) (by rw [(spNo (HNO.out)).2.1]; rfl) (spNo (HNO.out)).2.2.symm (HNO.out).symm, (HF9.out.below_of hbA (by omega) (by omega))⟩
      have hm' : ((m : Int) != (N.ends.length : Int) - 1) = false := by simp [hm]
      have HOK := Lib.hid (show spanOk N = true by unfold spanOk; rw [HG.out, HC.out, HM.out, decide_eq_true hm]; rfl)
      clear hm
      refine anyU_ready (rs := [11]) (by kernel_rfl) (by simp) ?_
      refine ReadyU.cons (i := 11) rfl (fun K hK => ?_) ReadyU.nil
      simp only [List.getElem_toArray, List.getElem_cons_succ, List.getElem_cons_zero]
      refine ite_is (by rfl) ?_
      simp [go_sem]
      refine hK.out _ _ ⟨fun _ => hS10, ?_⟩
      clear hK K
      try simp only [List.getElem_toArray, List.getElem_cons_succ, List.getElem_cons_zero, Act.put, List.setIfInBounds_toArray, List.set_cons_zero, List.set_cons_succ]
      refine anyU_ready (rs := [16]) (by kernel_rfl) (by simp) ?_
      refine ReadyU.cons (i := 16) rfl (fun K hK => ?_) ReadyU.nil
      simp only [List.getElem_toArray, List.getElem_cons_succ, List.getElem_cons_zero]
      refine ite_is (by rfl) ?_
      simp [go_sem, hm']
      refine hK.out _ _ ⟨fun _ => hS10, ?_⟩
      clear hK K
      try simp only [List.getElem_toArray, List.getElem_cons_succ, List.getElem_cons_zero, Act.put, List.setIfInBounds_toArray, List.set_cons_zero, List.set_cons_succ]
      refine anyU_ready (rs := [17]) (by kernel_rfl) (by simp) ?_
      refine ReadyU.cons (i := 17) rfl (fun K hK => ?_) ReadyU.nil
      simp only [List.getElem_toArray, List.getElem_cons_succ, List.getElem_cons_zero]
      refine ite_is (by rfl) ?_
      simp [go_sem]
      refine hK.out _ _ ⟨fun _ => hS10, ?_⟩
      clear hK K
      try simp only [List.getElem_toArray, List.getElem_cons_succ, List.getElem_cons_zero, Act.put, List.setIfInBounds_toArray, List.set_cons_zero, List.set_cons_succ]
      clear hS10
      refine anyU_done (by kernel_rfl) ?_ _
      have hu0 : spU0 N < N.ends.length := far_lt HG.out 0 (by omega)
      have hv0 : spV0 N < N.ends.length := far_lt HG.out _ hu0
      obtain ⟨u, HU⟩ : ∃ u, Hid (spU0 N = u) := ⟨_, Lib.hid rfl⟩
      obtain ⟨v, HV⟩ : ∃ u, Hid (spV0 N = u) := ⟨_, Lib.hid rfl⟩
      rw [HU.out] at hu0
      rw [HV.out] at hv0
      have h00 : 0 < N.ends.length := by omega
      have HD0 := Lib.hid (wave_dist HG.out h00)
      have HDU := Lib.hid (wave_dist HG.out hu0)
      have HL0 := Lib.hid (dist_len (good_nodes HG.out) h00)
      have HLU := Lib.hid (dist_len (good_nodes HG.out) hu0)
      have kbx1_0 : W9.cell? ⟨w.heap.size, 0, none⟩ = some (.slice A1 N.ends.length c1) := (HF9.out.boxN bx1 (by omega)).cell 0 (by simp)
      have kbx1_1 : W9.cell? ⟨w.heap.size, 1, none⟩ = some (.slice A1' N.ids.length c1') := (HF9.out.boxN bx1 (by omega)).cell 1 (by simp)
      have kbx1_2 : W9.cell? ⟨w.heap.size, 2, none⟩ = some (.slice A1'' N.inputs.length c1'') := (HF9.out.boxN bx1 (by omega)).cell 2 (by simp)
      go_wp2_with fail
      clear kbx1_0 kbx1_1 kbx1_2
      refine (biWave_any _ N lo1 hi1 0 _ (Net.turned G1.out HF9.out (by omega) (by omega)) (by omega) HG.out h00).mono ?_
      rintro e W11 ⟨r11, q11, m11, rfl, hm1, hm2, hr11, hq11, hb11⟩
      clear hr11
      have hg11 := grown_below hb11; clear hb11
      have hs11 := hg11.size
      have HF11 := Lib.hid (HF9.out.still hg11); clear HF9
      rw [HD0.out] at hq11
      have Q11 := Lib.hid hq11; clear hq11
      obtain ⟨Aq11, cq11, rfl, hcq11, hdq11⟩ := Q11.out.dims
      go_upto_region 5 with (go_at_call 114; refine (biFar_any _ (dist N 0) _ _ _ Q11.out (by omega) (by rw [HL0.out]; omega) (by rw [HL0.out]; omega)).mono ?_; rintro e w' ⟨rfl, rfl⟩; rw [show farN (dist N 0) (dist N 0).length = u by rw [HL0.out]; exact HU.out])
      have kbx1_0 : W11.cell? ⟨w.heap.size, 0, none⟩ = some (.slice A1 N.ends.length c1) := (HF11.out.boxN bx1 (by omega)).cell 0 (by simp)
      have kbx1_1 : W11.cell? ⟨w.heap.size, 1, none⟩ = some (.slice A1' N.ids.length c1') := (HF11.out.boxN bx1 (by omega)).cell 1 (by simp)
      have kbx1_2 : W11.cell? ⟨w.heap.size, 2, none⟩ = some (.slice A1'' N.inputs.length c1'') := (HF11.out.boxN bx1 (by omega)).cell 2 (by simp)
      go_wp2_with fail
      clear kbx1_0 kbx1_1 kbx1_2
      refine (biWave_any _ N lo1 hi1 u _ (Net.turned G1.out HF11.out (by omega) (by omega)) (by omega) HG.out hu0).mono ?_
      rintro e W12 ⟨r12, q12, m12, rfl, hm1, hm2, hr12, hq12, hb12⟩
      clear hr12
      have hg12 := grown_below hb12; clear hb12
      have hs12 := hg12.size
      have HF12 := Lib.hid (HF11.out.still hg12); clear HF11
      rw [HDU.out] at hq12
      have Q12 := Lib.hid hq12; clear hq12
      obtain ⟨Aq12, cq12, rfl, hcq12, hdq12⟩ := Q12.out.dims
      obtain ⟨bq, oq, rfl, _, _, x9, _⟩ := Q12.out.opened (j := v) (by rw [HLU.out]; exact hv0)
      obtain ⟨y9, HY9⟩ : ∃ y, Hid (nth (dist N u) v = y) := ⟨_, Lib.hid rfl⟩
      rw [HY9.out] at x9
      have hvi : (v : Int) < (dist N u).length := by rw [HLU.out]; omega
      go_upto_region 7 with (go_at_call 114; refine (biFar_any _ (dist N u) _ _ _ Q12.out (by omega) (by rw [HLU.out]; omega) (by rw [HLU.out]; omega)).mono ?_; rintro e w' ⟨rfl, rfl⟩; rw [show farN (dist N u) (dist N u).length = v by rw [HLU.out, ← HU.out]; exact HV.out])
      go_quiet (fail)
      go_wp2_with fail
      ((try simp only [Exit.inBlock, Exit.then]); refine bodyPost_ret (results_tmp4 rfl _ _ _) rfl ?_)
      exact ⟨ret_iiib (by rw [(spYes HOK.out).1, HU.out]) (by rw [(spYes HOK.out).2.1, HV.out]) (by rw [(spYes HOK.out).2.2, HU.out, HV.out, HY9.out]) HOK.out.symm, below_drewN ((HF12.out.below_of hbA (by omega) (by omega))) nq⟩

end Go.Proofs.Ytoebgfmnjjiddaa
