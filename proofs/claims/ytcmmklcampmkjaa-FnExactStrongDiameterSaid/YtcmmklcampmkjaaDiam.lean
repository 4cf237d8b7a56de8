/-
  Contracts: how wide the clusters of a decomposition are (program and reference).
-/
import Derived.Test.YtcmmklcampmkjaaDeco
import Derived.Test.YtcmmklcampmkjaaColour
import Derived.Deep.RegionHeld3
import Derived.StillTailTactics
namespace Go.Proofs.Ytcmmklcampmkjaa
open Go.ChangeShapes Go.WideShapes Go.ChangeAt Go.RowKit
set_option linter.unusedVariables false

theorem mostI_congr {a b : List Int} (h1 : ∀ x ∈ a, x ∈ b) (h2 : ∀ x ∈ b, x ∈ a) : mostI a = mostI b := by
  obtain ⟨p, q, r⟩ := mostI_spec b
  exact mostI_eq p (fun x hx => q x (h1 x hx)) (r.imp id (h2 _))
theorem mostI_append (a b : List Int) : mostI (a ++ b) = if mostI b < mostI a then mostI a else mostI b := by
  obtain ⟨p, q, r⟩ := mostI_spec a
  obtain ⟨p2, q2, r2⟩ := mostI_spec b
  split
  · rename_i h
    refine mostI_eq p (fun x hx => ?_) (r.imp id fun h => List.mem_append_left _ h)
    rcases List.mem_append.1 hx with hx | hx
    · exact q x hx
    · have := q2 x hx; omega
  · rename_i h
    refine mostI_eq p2 (fun x hx => ?_) (r2.imp id fun h => List.mem_append_right _ h)
    rcases List.mem_append.1 hx with hx | hx
    · have := q x hx; omega
    · exact q2 x hx
theorem mostI_le {a : List Int} {m : Int} (h0 : 0 ≤ m) (h : ∀ x ∈ a, x ≤ m) : mostI a ≤ m := by
  rcases (mostI_spec a).2.2 with r | r
  · omega
  · exact h _ r
/-- the distances between nodes of a list -/
def wideL (N : NetD) (nodes : List Int) : List Int := nodes.flatMap fun v => thruL (dist N v.toNat) nodes
def wide (N : NetD) (nodes : List Int) : Int := mostI (wideL N nodes)
theorem wideL_take {N : NetD} {nodes all : List Int} {k : Nat} (hk : k < nodes.length) : (nodes.take (k + 1)).flatMap (fun v => thruL (dist N v.toNat) all) = (nodes.take k).flatMap (fun v => thruL (dist N v.toNat) all) ++ thruL (dist N (nth nodes k).toNat) all := by
  rw [List.take_succ_eq_append_getElem hk, List.flatMap_append, nth_eq hk]; simp
def clusN (l : List Int) (c : Nat) : List Int := fibL l c l.length
def diams (N : NetD) (l : List Int) (m : Nat) : List Int := (List.range m).map fun c => wide N (clusN l c)
theorem diams_length (N : NetD) (l : List Int) (m : Nat) : (diams N l m).length = m := by simp [diams]
theorem nth_diams {N : NetD} {l : List Int} {m c : Nat} (h : c < m) : nth (diams N l m) c = wide N (clusN l c) := by simp [nth, diams, h]
def rowL (N : NetD) (l : List Int) (c v m : Nat) : List Int := if nth l v = c then ((List.range m).filter fun w => decide (nth l w = (c : Int))).map fun w => nth (dist N v) w else []
def doneL (N : NetD) (l : List Int) (c k m : Nat) : List Int := ((List.range k).flatMap fun v => rowL N l c v N.ends.length) ++ rowL N l c k m
theorem rowL_zero (N : NetD) (l : List Int) (c v : Nat) : rowL N l c v 0 = [] := by unfold rowL; split <;> simp
theorem rowL_succ (N : NetD) (l : List Int) (c v m : Nat) : rowL N l c v (m + 1) = rowL N l c v m ++ if nth l v = c ∧ nth l m = c then [nth (dist N v) m] else [] := by
  unfold rowL
  by_cases h : nth l v = (c : Int)
  · by_cases h2 : nth l m = (c : Int) <;> simp [h, h2, List.range_succ]
  · simp [h]
theorem doneL_zero (N : NetD) (l : List Int) (c : Nat) : doneL N l c 0 0 = [] := by simp [doneL, rowL_zero]
theorem doneL_succ (N : NetD) (l : List Int) (c k m : Nat) : doneL N l c k (m + 1) = doneL N l c k m ++ if nth l k = c ∧ nth l m = c then [nth (dist N k) m] else [] := by unfold doneL; rw [rowL_succ, List.append_assoc]
theorem doneL_row (N : NetD) (l : List Int) (c k : Nat) : doneL N l c (k + 1) 0 = doneL N l c k N.ends.length := by unfold doneL; rw [rowL_zero, List.range_succ, List.flatMap_append]; simp
theorem mem_rowL {N : NetD} {l : List Int} {c v m : Nat} {x : Int} : x ∈ rowL N l c v m ↔ nth l v = c ∧ ∃ w, w < m ∧ nth l w = c ∧ x = nth (dist N v) w := by
  unfold rowL
  by_cases h : nth l v = (c : Int)
  · rw [if_pos h]
    simp only [List.mem_map, List.mem_filter, List.mem_range, decide_eq_true_eq]
    constructor
    · rintro ⟨w, ⟨a, b⟩, e⟩; exact ⟨h, w, a, b, e.symm⟩
    · rintro ⟨_, w, a, b, e⟩; exact ⟨w, ⟨a, b⟩, e.symm⟩
  · rw [if_neg h]
    constructor
    · intro h; cases h
    · intro h2; exact absurd h2.1 h
theorem doneL_all {N : NetD} {l : List Int} (hl : l.length = N.ends.length) (c : Nat) : mostI (doneL N l c N.ends.length 0) = wide N (clusN l c) := by
  unfold wide
  apply mostI_congr
  · intro x hx
    unfold doneL at hx
    rw [rowL_zero, List.append_nil, List.mem_flatMap] at hx
    obtain ⟨v, hv, hx⟩ := hx
    obtain ⟨hc, w, hw, hwc, rfl⟩ := mem_rowL.1 hx
    rw [List.mem_range] at hv
    unfold wideL
    rw [List.mem_flatMap]
    refine ⟨(v : Int), mem_fibL.2 ⟨v, by omega, hc, rfl⟩, ?_⟩
    unfold thruL
    rw [List.mem_map]
    exact ⟨(w : Int), mem_fibL.2 ⟨w, by omega, hwc, rfl⟩, by simp⟩
  · intro x hx
    unfold wideL at hx
    rw [List.mem_flatMap] at hx
    obtain ⟨v', hv, hx⟩ := hx
    unfold thruL at hx
    rw [List.mem_map] at hx
    obtain ⟨w', hw, rfl⟩ := hx
    obtain ⟨v, hv, hvc, rfl⟩ := mem_fibL.1 hv
    obtain ⟨w, hw, hwc, rfl⟩ := mem_fibL.1 hw
    unfold doneL
    rw [rowL_zero, List.append_nil, List.mem_flatMap]
    exact ⟨v, List.mem_range.2 (by omega), mem_rowL.2 ⟨hvc, w, by omega, hwc, by simp⟩⟩
/-- the numbers that the loop of the program holds -/
def DiamAt (N : NetD) (l : List Int) (mc k q : Nat) (zs : List Int) : Prop := zs.length = mc ∧ ∀ c, c < mc → nth zs c = mostI (doneL N l c k q)
theorem DiamAt.start (N : NetD) (l : List Int) (mc : Nat) : DiamAt N l mc 0 0 (List.replicate mc 0) := ⟨by simp, fun c hc => by rw [nth_replicate _ _ hc, doneL_zero]; rfl⟩
theorem DiamAt.row {N : NetD} {l : List Int} {mc k : Nat} {zs : List Int} (h : DiamAt N l mc k N.ends.length zs) : DiamAt N l mc (k + 1) 0 zs := ⟨h.1, fun c hc => by rw [doneL_row]; exact h.2 c hc⟩
theorem DiamAt.no {N : NetD} {l : List Int} {mc k q : Nat} {zs : List Int} (h : DiamAt N l mc k q zs) (hn : nth l k ≠ nth l q) : DiamAt N l mc k (q + 1) zs := ⟨h.1, fun c hc => by rw [doneL_succ, if_neg (fun e => hn (e.1.trans e.2.symm)), List.append_nil]; exact h.2 c hc⟩
theorem DiamAt.yes {N : NetD} {l : List Int} {mc k q a : Nat} {zs : List Int} (h : DiamAt N l mc k q zs) (ha : a < mc) (h1 : nth l k = a) (h2 : nth l q = a) : DiamAt N l mc k (q + 1) (zs.set a (if nth (dist N k) q < nth zs a then nth zs a else nth (dist N k) q)) := by
  refine ⟨by rw [List.length_set]; exact h.1, fun c hc => ?_⟩
  rw [nth_set _ _ _ _ (by rw [h.1]; exact ha), doneL_succ]
  by_cases e : c = a
  · subst e
    rw [if_pos rfl, if_pos (c := nth l k = (c : Int) ∧ nth l q = (c : Int)) ⟨h1, h2⟩, mostI_snoc, h.2 c hc]
  · rw [if_neg e, if_neg (fun h' => e (by have := h'.1; omega)), List.append_nil]; exact h.2 c hc
theorem DiamAt.done {N : NetD} {l : List Int} {mc : Nat} {zs : List Int} (hl : l.length = N.ends.length) (h : DiamAt N l mc N.ends.length 0 zs) : zs = diams N l mc :=
  ext_nth (by rw [h.1, diams_length]) fun c hc => by rw [h.1] at hc; rw [h.2 c hc, nth_diams hc, doneL_all hl]
theorem wide_le {N : NetD} (hg : N.good = true) {nodes : List Int} (hn : ∀ x ∈ nodes, ∃ t : Nat, x = t ∧ t < N.ends.length) : 0 ≤ wide N nodes ∧ wide N nodes ≤ 40 := by
  obtain ⟨n1, n40⟩ := good_n hg
  refine ⟨(mostI_spec _).1, mostI_le (by omega) fun x hx => ?_⟩
  unfold wideL at hx
  rw [List.mem_flatMap] at hx
  obtain ⟨v', hv, hx⟩ := hx
  unfold thruL at hx
  rw [List.mem_map] at hx
  obtain ⟨w', hw, rfl⟩ := hx
  obtain ⟨v, rfl, hv2⟩ := hn _ hv
  obtain ⟨w, rfl, hw2⟩ := hn _ hw
  have := dist_low (good_nodes hg) hv2 hw2
  rw [Int.toNat_natCast, Int.toNat_natCast]
  omega
theorem clusN_node {N : NetD} {l : List Int} (hl : l.length = N.ends.length) (c : Nat) : ∀ x ∈ clusN l c, ∃ t : Nat, x = t ∧ t < N.ends.length := fun x hx => by
  obtain ⟨v, hv, _, rfl⟩ := mem_fibL.1 hx
  exact ⟨v, rfl, by omega⟩
def askedB (N : NetD) (D : DecD) : Bool := N.good && decB N D
def weakR (N : NetD) (D : DecD) : Int := mostI (diams N D.cluster D.colour.length)

set_option maxHeartbeats 4000000 in
set_option maxRecDepth 100000 in
theorem deNodes_any (v1 : Value) (l : List Int) (lo1 hi1 : Nat) (k : Nat) (w : World) (h1 : IntS w lo1 hi1 v1 l) (hh1 : hi1 ≤ w.heap.size) (hz : l.length ≤ 1048576) :
    Calls Try.prog 25 #[v1, .int .i64 (k : Nat)] w fun e w' => ∃ r, e = .returned (r) ∧ IntS w' w.heap.size w'.heap.size r (clusN l k) ∧ Below w.heap.size w w' := by
  have F1 := Lib.hid h1
  obtain ⟨A1, c1, rfl, hc1, hd1⟩ := h1.dims
  clear h1
  go_enter Try.func25, Try.ntmps25
  go_wp2_with fail
  go_loopw [10, 5] (fun i ov wr => ∃ (m : Nat), m ≤ l.length ∧ i = .int .i64 m ∧ Hid (OwnI wr w.heap.size 3 ov (fibL l k m)) ∧ Hid (Turned w.heap.size w.heap.size w wr)) (fun i ov _ => l.length - (intOf i).toNat)
  case atStart => exact ⟨0, Nat.zero_le _, rfl, Lib.hid (OwnI.nil _ _ _), Lib.hid (Turned.refl w.heap.size w.heap.size w)⟩
  case round =>
    obtain ⟨m, hm, rfl, HO, HF1⟩ := hrel
    have hs1 := HF1.out.size
    have hfl := fibL_len l k m
    by_cases hml : m < l.length
    case neg =>
      obtain rfl : m = l.length := by omega
      obtain ⟨Az, cz, rfl, hcz, hdz⟩ := HO.out.ints.dims
      go_wp2_with fail
      go_ret
      exact ⟨_, rfl, HO.out.ints, (HF1.out.below_of (Below.refl _ _) (by omega) (by omega))⟩
    obtain ⟨be, oe, rfl, _, hbe', xe, _⟩ := (IntS.turned F1.out HF1.out (by omega) (by omega)).opened hml
    obtain ⟨x, HX⟩ : ∃ x, Hid (nth l m = x) := ⟨_, Lib.hid rfl⟩
    rw [HX.out] at xe
    have hlv := HO.out.lt
    cases hx : (x == (k : Int)) with
    | false =>
      have HN := Lib.hid (fibL_no (l := l) (c := k) (m := m) (by rw [HX.out]; simpa using hx))
      go_wp2_with fail
      go_roundw
      case rel => exact ⟨m + 1, by omega, by go_num, by rw [HN.out]; exact HO, HF1⟩
      case measure => simp [intOf]; omega
    | true =>
      have HN := Lib.hid (fibL_yes (l := l) (c := k) (m := m) (by rw [HX.out]; simpa using hx))
      go_wp2_with (at_builtin; refine append_int (s := .tmp 18) Try.underlying23 Try.info3 (by decide) wr rfl _ rfl HO.out m _ rfl (by simp [Act.eval, go_sem]) (by omega) (by omega) ?_; intro v' w' ho' hg' hat')
      go_roundw
      case rel => exact ⟨m + 1, by omega, by go_num, by rw [HN.out]; exact Lib.hid ho', Lib.hid (HF1.out.grown hg' fun g hg => .inr (hlv g hg).1)⟩
      case measure => simp [intOf]; omega

set_option maxHeartbeats 4000000 in
set_option maxRecDepth 100000 in
theorem diameters_any (v1 : Value) (N : NetD) (lo1 hi1 : Nat) (v2 : Value) (l : List Int) (lo2 hi2 : Nat) (w : World) (h1 : Net w lo1 hi1 v1 N) (hh1 : hi1 ≤ w.heap.size) (h2 : IntS w lo2 hi2 v2 l) (hh2 : hi2 ≤ w.heap.size) (mc : Nat) (hg : N.good = true) (hc : Clus N l) (hm : mostI l + 1 = mc) :
    Calls Try.prog 36 #[v1, v2] w fun e w' => ∃ r, e = .returned (r) ∧ IntS w' w.heap.size w'.heap.size r (diams N l mc) ∧ Below w.heap.size w w' := by
  obtain ⟨n1, n40⟩ := good_n hg
  have HG := Lib.hid hg; clear hg
  have HK := Lib.hid hc; clear hc
  have hcl := HK.out.len
  have hle1 : l.length ≤ N.ends.length := by omega
  have hle2 : N.ends.length ≤ l.length := by omega
  have hmc : 1 ≤ mc ∧ mc ≤ 40 := by
    obtain ⟨m, hm2, hm3⟩ := HK.out.most HG.out
    omega
  obtain ⟨hmc1, hmc2⟩ := hmc
  have HNAT := Lib.hid (fun v (hv : v < N.ends.length) => show ∃ a : Nat, nth l v = a ∧ a < mc by obtain ⟨a, ha, _⟩ := HK.out.nat hv; have h2 := (mostI_spec l).2.1 _ (nth_mem (zs := l) (i := v) (by omega)); exact ⟨a, ha, by omega⟩)
  have HCL := Lib.hid hcl
  have HM := Lib.hid hm; clear hm hcl
  have hmk := fun W => run_make_row' (P := Try.prog) 23 3 (.int .i64 0) 8 Try.underlying23 Try.info3 rfl .i64 .i64 mc (by omega) (by omega) W
  have F1 := Lib.hid h1
  obtain ⟨A1, c1, A1', c1', A1'', c1'', rfl, hc1, hd1, _⟩ := h1.parts
  obtain ⟨b1, o1, _, _, rfl, _⟩ := Net.rowAt F1.out (u := 0) (by omega)
  clear h1
  have F2 := Lib.hid h2
  obtain ⟨A2, c2, rfl, hc2, hd2⟩ := h2.dims
  clear h2
  obtain ⟨WA, HWA⟩ : ∃ W, Hid (W = (w.alloc (.cells #[.slice (some ⟨b1, o1, none⟩) N.ends.length c1, .slice A1' N.ids.length c1', .slice A1'' N.inputs.length c1''] 34))) := ⟨_, Lib.hid rfl⟩
  have hbA : Below w.heap.size w WA := by rw [HWA.out]; exact ((Below.refl _ _).alloc (Nat.le_refl _) _)
  have hsA : w.heap.size + 1 ≤ WA.heap.size := by rw [HWA.out]; simp; try omega
  have bx1 : BoxN WA (w.heap.size) #[.slice (some ⟨b1, o1, none⟩) N.ends.length c1, .slice A1' N.ids.length c1', .slice A1'' N.inputs.length c1''] 34 := by rw [HWA.out]; exact (BoxN.new' _ _ _ (by simp))
  have G1 := Lib.hid (Net.below F1.out hbA hh1); clear F1
  have G2 := Lib.hid (IntS.below F2.out hbA hh2); clear F2
  go_enter Try.func36, Try.ntmps36
  go_upto_region 1 with (fail)
  rw [← HWA.out]; clear HWA
  go_wp2_with fail
  refine (classCount_any _ l _ _ _ G2.out (by omega) (fun x hx => (HK.out.low x hx).1) (fun x hx => by have := (HK.out.low x hx).2; omega)).mono ?_
  rintro e w' ⟨rfl, rfl⟩
  rw [HM.out]
  go_upto_region 2 with (fail)
  clear hmk
  refine nameC ?_
  intro W1 HW1
  have hg1 : WA.grownBy W1 none := by rw [HW1.out]; exact grown_alloc _ _
  have hs1 := hg1.size
  have HF1 := Lib.hid ((Turned.refl WA.heap.size WA.heap.size WA).still hg1)
  have HO := Lib.hid (show IntS W1 WA.heap.size (WA.heap.size + 1) (.slice (some ⟨WA.heap.size, 0, none⟩) mc mc) (List.replicate mc 0) by rw [HW1.out]; exact made_ints _ _ _ rfl (by omega))
  have hz : WA.heap.size + 1 ≤ W1.heap.size := by rw [HW1.out]; simp
  clear HW1
  have kbx1_0 : W1.cell? ⟨w.heap.size, 0, none⟩ = some (.slice (some ⟨b1, o1, none⟩) N.ends.length c1) := (HF1.out.boxN bx1 (by omega)).cell 0 (by simp)
  have kbx1_1 : W1.cell? ⟨w.heap.size, 1, none⟩ = some (.slice A1' N.ids.length c1') := (HF1.out.boxN bx1 (by omega)).cell 1 (by simp)
  have kbx1_2 : W1.cell? ⟨w.heap.size, 2, none⟩ = some (.slice A1'' N.inputs.length c1'') := (HF1.out.boxN bx1 (by omega)).cell 2 (by simp)
  go_wp2_with fail
  clear kbx1_0 kbx1_1 kbx1_2
  refine (allDistances_any _ N lo1 hi1 _ (Net.turned G1.out HF1.out (by omega) (by omega)) (by omega) (by omega) (good_nodes HG.out) (good_degs HG.out)).mono ?_
  rintro e W2 ⟨rd, rfl, hrd, hb2⟩
  have hg2 := grown_below hb2; clear hb2
  have hs2 := hg2.size
  have HF2 := Lib.hid (HF1.out.still hg2); clear HF1
  have O2 := Lib.hid (IntS.still HO.out hg2 (by omega)); clear HO
  have D2 := Lib.hid hrd; clear hrd
  obtain ⟨Ad, cd, rfl, hcd, hdd⟩ := D2.out.dims
  rw [allDist_length] at hcd ⊢
  have N_2 := Lib.hid (Net.turned G1.out HF2.out (by omega) (by omega)); clear G1
  have l_2 := Lib.hid (IntS.turned G2.out HF2.out (by omega) (by omega)); clear G2
  have bx1_2 := HF2.out.boxN bx1 (by omega); clear bx1
  have hbA2 := (HF2.out.below_of hbA (by omega) (by omega)); clear hbA HF2
  go_wp2_with fail
  go_loopw [16] (fun i wr => ∃ (k : Nat) (zs : List Int), k ≤ N.ends.length ∧ i = .int .i64 k ∧ Hid (IntS wr WA.heap.size (WA.heap.size + 1) (.slice (some ⟨WA.heap.size, 0, none⟩) mc mc) zs) ∧ Hid (DiamAt N l mc k 0 zs) ∧ Hid (zs.length = mc) ∧ Hid (Turned WA.heap.size (WA.heap.size + 1) W2 wr)) (fun i _ => N.ends.length - (intOf i).toNat)
  case atStart => exact ⟨0, _, Nat.zero_le _, rfl, O2, Lib.hid (DiamAt.start N l mc), Lib.hid (by simp), Lib.hid (Turned.refl WA.heap.size (WA.heap.size + 1) W2)⟩
  case round =>
    obtain ⟨k, zs, hk, rfl, HO, HD, HL, HF3⟩ := hrel
    have hs3 := HF3.out.size
    by_cases hlt : k < N.ends.length
    case neg =>
      obtain rfl : k = N.ends.length := by omega
      go_wp2_with fail
      go_ret
      refine ⟨_, rfl, ?_, (HF3.out.below_of hbA2 (by omega) (by omega))⟩
      rw [← HD.out.done HCL.out]
      exact HO.out.mono (by omega) (by omega)
    have hlt2 : k < (allDist N).length := by rw [allDist_length]; exact hlt
    obtain ⟨bs, os, us, rfl, _, hbs, zd, hus⟩ := SS.opened (ISS.turned D2.out HF3.out (by omega) (by omega)) hlt2
    clear hlt2
    rw [nthL_allDist N hlt] at hus
    obtain ⟨As, cs, rfl, hcs, hds⟩ := hus.dims
    have US := Lib.hid hus; clear hus
    have hdl := dist_len (good_nodes HG.out) hlt
    rw [hdl] at zd hcs US
    have HDL := Lib.hid hdl; clear hdl
    obtain ⟨bR, oR, rfl, -, hbR, -, -⟩ := IntS.opened US.out (j := 0) (by rw [HDL.out]; omega)
    obtain ⟨bL, oL, rfl, -, hbL, -, -⟩ := IntS.opened (IntS.turned l_2.out HF3.out (by omega) (by omega)) (j := 0) (by omega)
    obtain ⟨a, ha, hal⟩ := HNAT.out k hlt
    obtain ⟨wo, rfl⟩ : ∃ wo : World, wo = wr := ⟨_, rfl⟩
    go_wp2_with fail
    go_loopw [23] (fun i wr => ∃ (q : Nat) (ys : List Int), q ≤ N.ends.length ∧ i = .int .i64 q ∧ Hid (IntS wr WA.heap.size (WA.heap.size + 1) (.slice (some ⟨WA.heap.size, 0, none⟩) mc mc) ys) ∧ Hid (IntS wr W1.heap.size W2.heap.size (.slice (some ⟨bR, oR, none⟩) N.ends.length cs) (dist N k)) ∧ Hid (DiamAt N l mc k q ys) ∧ Hid (ys.length = mc) ∧ Hid (Turned WA.heap.size (WA.heap.size + 1) W2 wr)) (fun i _ => N.ends.length - (intOf i).toNat)
    case atStart => exact ⟨0, zs, Nat.zero_le _, rfl, HO, US, HD, HL, HF3⟩
    case round =>
      clear HF3
      obtain ⟨q, ys, hq, rfl, HO, HR, HQ, HL2, HF4⟩ := hrel
      have hs4 := HF4.out.size
      by_cases hql : q < N.ends.length
      case neg =>
        obtain rfl : q = N.ends.length := by omega
        go_wp2_with fail
        go_roundw
        case rel => exact ⟨k + 1, ys, by omega, by go_num, HO, Lib.hid HQ.out.row, HL2, HF4⟩
        case measure => simp [intOf]; omega
      obtain ⟨b, hb, hbl⟩ := HNAT.out q hql
      obtain ⟨x1, _⟩ := HR.out.at_ (j := q) (by rw [HDL.out]; exact hql)
      have y1 := ((IntS.turned l_2.out HF4.out (by omega) (by omega)).at_ (j := k) (by omega)).1
      have y2 := ((IntS.turned l_2.out HF4.out (by omega) (by omega)).at_ (j := q) (by omega)).1
      rw [ha] at y1
      rw [hb] at y2
      obtain ⟨d, HDD⟩ : ∃ d, Hid (nth (dist N k) q = d) := ⟨_, Lib.hid rfl⟩
      rw [HDD.out] at x1
      have i1 : (k : Int) < l.length := by omega
      have i2 : (q : Int) < l.length := by omega
      have i3 : (a : Int) < mc := by omega
      have HA := Lib.hid ha
      have HB := Lib.hid hb
      clear hb
      by_cases hab : a = b
      case neg =>
        have hab' : ((a : Int) == (b : Int)) = false := by simp; omega
        have HN := Lib.hid (HQ.out.no (by rw [HA.out, HB.out]; omega))
        clear hab ha
        go_wp2_with fail
        go_quiet (fail)
        go_wp2_with fail
        go_roundw
        case rel => exact ⟨q + 1, ys, by omega, by go_num, Lib.hid (IntS.still HO.out (grown_drewN _ nq) (by omega)), Lib.hid (IntS.still HR.out (grown_drewN _ nq) (by omega)), HN, HL2, Lib.hid (HF4.out.still (grown_drewN _ _))⟩
        case measure => simp [intOf]; omega
      have hab' : ((a : Int) == (b : Int)) = true := by simp; omega
      have HYS := Lib.hid (HQ.out.yes hal HA.out (by rw [HB.out]; omega))
      obtain ⟨e, HE⟩ : ∃ e, Hid (nth ys a = e) := ⟨_, Lib.hid rfl⟩
      obtain ⟨z1, z2⟩ := HO.out.at0 (j := a) (by rw [HL2.out]; exact hal)
      rw [HE.out] at z1
      rw [HE.out, HDD.out] at HYS
      clear hab ha
      go_wp2_with fail
      go_quiet (fail)
      go_wp2_with fail
      refine nameC ?_
      intro W9 HW9
      have hg9 : wr.grownBy W9 none := by rw [HW9.out]; exact grown_drewN _ nq
      have HO9 := Lib.hid (IntS.still HO.out hg9 (by omega))
      have HR9 := Lib.hid (IntS.still HR.out hg9 (by omega))
      have HF9 := Lib.hid (HF4.out.still hg9)
      have hs9 := hg9.size
      have y1q : ({ heap := W9.heap, tape := W9.tape, drawn := W9.drawn + 1, os := W9.os, output := W9.output } : World).cell? ⟨bL, oL + k, none⟩ = some (.int .i64 a) := by rw [HW9.out]; exact y1
      have z1q : ({ heap := W9.heap, tape := W9.tape, drawn := W9.drawn + 1, os := W9.os, output := W9.output } : World).cell? ⟨WA.heap.size, a, none⟩ = some (.int .i64 e) := by rw [HW9.out]; exact z1
      have y1r : W9.cell? ⟨bL, oL + k, none⟩ = some (.int .i64 a) := by rw [HW9.out]; exact y1
      have z1r : W9.cell? ⟨WA.heap.size, a, none⟩ = some (.int .i64 e) := by rw [HW9.out]; exact z1
      have y1s : W9.drew.cell? ⟨bL, oL + k, none⟩ = some (.int .i64 a) := by rw [HW9.out]; exact y1
      have z1s : W9.drew.cell? ⟨WA.heap.size, a, none⟩ = some (.int .i64 e) := by rw [HW9.out]; exact z1
      clear y1 y2 z1 z2 x1 HW9
      go_still_tail 15, (by kernel_rfl)
      refine nameL ?_
      intro W8 HW8
      have hg8 : W9.grownBy W8 none := by rw [HW8.out]; exact ⟨rfl, rfl, rfl, Nat.le_refl _, fun _ _ _ => rfl⟩
      clear HW8 y1q z1q y1r z1r y1s z1s
      have HO8 := Lib.hid (IntS.still HO9.out hg8 (by omega))
      have HR8 := Lib.hid (IntS.still HR9.out hg8 (by omega))
      have HF8 := Lib.hid (HF9.out.still hg8)
      have hs8 := hg8.size
      clear HO9 HR9 HF9
      obtain ⟨z1, z2⟩ := HO8.out.at0 (j := a) (by rw [HL2.out]; exact hal)
      have HS := Lib.hid (HO8.out.set0 (j := a) (by rw [HL2.out]; exact hal) (max e d))
      have HRS := Lib.hid (HR8.out.setCell (p := ⟨WA.heap.size, a, none⟩) (by left; show WA.heap.size < _; omega) (.int .i64 (max e d)))
      have HFS := Lib.hid (HF8.out.grown (grown_set W8 ⟨WA.heap.size, a, none⟩ (.int .i64 (max e d))) fun g hg => .inl (by cases hg; exact ⟨Nat.le_refl _, by show WA.heap.size < _; omega⟩))
      have HMX := Lib.hid (show (if d < e then e else d) = max e d by split <;> omega)
      rw [HMX.out] at HYS
      clear HO8 HR8 HF8
      go_wp2_with fail
      go_roundw
      case rel => exact ⟨q + 1, _, by omega, by go_num, HS, HRS, HYS, Lib.hid (by rw [List.length_set]; exact HL2.out), HFS⟩
      case measure => simp [intOf]; omega

set_option maxHeartbeats 4000000 in
set_option maxRecDepth 100000 in
theorem decompositionOk_any (v1 : Value) (N : NetD) (lo1 hi1 : Nat) (v2 : Value) (D : DecD) (lo2 hi2 : Nat) (w : World) (h1 : Net w lo1 hi1 v1 N) (hh1 : hi1 ≤ w.heap.size) (h2 : Dec w lo2 hi2 v2 D) (hh2 : hi2 ≤ w.heap.size) (hz1 : N.sz ≤ 1048576) (hz2 : D.sz ≤ 1048576) :
    Calls Try.prog 30 #[v1, v2] w fun e w' => e = .returned (.bool (askedB N D)) ∧ Below w.heap.size w w' := by
  have F1 := Lib.hid h1
  obtain ⟨A1, c1, A1', c1', A1'', c1'', rfl, hc1, hd1, _⟩ := h1.parts
  clear h1
  have F2 := Lib.hid h2
  obtain ⟨A2, c2, A2', c2', rfl, hc2, hd2⟩ := h2.parts
  clear h2
  obtain ⟨WA, HWA⟩ : ∃ W, Hid (W = ((w.alloc (.cells #[.slice A1 N.ends.length c1, .slice A1' N.ids.length c1', .slice A1'' N.inputs.length c1''] 34)).alloc (.cells #[.slice A2 D.cluster.length c2, .slice A2' D.colour.length c2'] 36))) := ⟨_, Lib.hid rfl⟩
  have hbA : Below w.heap.size w WA := by rw [HWA.out]; exact (((Below.refl _ _).alloc (Nat.le_refl _) _).alloc (by simp; try omega) _)
  have hsA : w.heap.size + 2 ≤ WA.heap.size := by rw [HWA.out]; simp; try omega
  have bx1 : BoxN WA (w.heap.size) #[.slice A1 N.ends.length c1, .slice A1' N.ids.length c1', .slice A1'' N.inputs.length c1''] 34 := by rw [HWA.out]; exact (BoxN.new' _ _ _ (by simp)).still (grown_alloc _ _)
  have bx2 : BoxN WA (w.heap.size + 1) #[.slice A2 D.cluster.length c2, .slice A2' D.colour.length c2'] 36 := by rw [HWA.out]; exact (BoxN.new' _ _ _ (by simp))
  have G1 := Lib.hid (Net.below F1.out hbA hh1); clear F1
  have G2 := Lib.hid (Dec.below F2.out hbA hh2); clear F2
  go_enter Try.func30, Try.ntmps30
  go_upto_region 1 with (fail)
  rw [← HWA.out]; clear HWA
  have kbx1_0 : WA.cell? ⟨w.heap.size, 0, none⟩ = some (.slice A1 N.ends.length c1) := bx1.cell 0 (by simp)
  have kbx1_1 : WA.cell? ⟨w.heap.size, 1, none⟩ = some (.slice A1' N.ids.length c1') := bx1.cell 1 (by simp)
  have kbx1_2 : WA.cell? ⟨w.heap.size, 2, none⟩ = some (.slice A1'' N.inputs.length c1'') := bx1.cell 2 (by simp)
  go_wp2_with fail
  clear kbx1_0 kbx1_1 kbx1_2
  refine (IsNetwork_any _ N lo1 hi1 _ G1.out (by omega) hz1).mono ?_
  rintro e W1 ⟨rfl, hb1⟩
  have hg1 := grown_below hb1; clear hb1
  have hs1 := hg1.size
  have HF1 := Lib.hid ((Turned.refl WA.heap.size WA.heap.size WA).still hg1)
  by_cases hg : N.good = true
  case neg =>
    have hg' : N.good = false := by simpa using hg
    rw [hg']
    have HG := Lib.hid hg'; clear hg hg'
    go_wp2_with fail
    go_ret
    exact ⟨ret_bool (by unfold askedB; rw [HG.out]; rfl), (HF1.out.below_of hbA (by omega) (by omega))⟩
  rw [hg]
  have HG := Lib.hid hg; clear hg
  have kbx1_0 : W1.cell? ⟨w.heap.size, 0, none⟩ = some (.slice A1 N.ends.length c1) := (HF1.out.boxN bx1 (by omega)).cell 0 (by simp)
  have kbx1_1 : W1.cell? ⟨w.heap.size, 1, none⟩ = some (.slice A1' N.ids.length c1') := (HF1.out.boxN bx1 (by omega)).cell 1 (by simp)
  have kbx1_2 : W1.cell? ⟨w.heap.size, 2, none⟩ = some (.slice A1'' N.inputs.length c1'') := (HF1.out.boxN bx1 (by omega)).cell 2 (by simp)
  have kbx2_0 : W1.cell? ⟨w.heap.size + 1, 0, none⟩ = some (.slice A2 D.cluster.length c2) := (HF1.out.boxN bx2 (by omega)).cell 0 (by simp)
  have kbx2_1 : W1.cell? ⟨w.heap.size + 1, 1, none⟩ = some (.slice A2' D.colour.length c2') := (HF1.out.boxN bx2 (by omega)).cell 1 (by simp)
  go_wp2_with fail
  clear kbx1_0 kbx1_1 kbx1_2 kbx2_0 kbx2_1
  refine (isDecomposition_any _ N lo1 hi1 _ D lo2 hi2 _ (Net.turned G1.out HF1.out (by omega) (by omega)) (by omega) (Dec.turned G2.out HF1.out (by omega) (by omega)) (by omega) HG.out hz2).mono ?_
  rintro e W2 ⟨rfl, hb2⟩
  have hg2 := grown_below hb2; clear hb2
  have hs2 := hg2.size
  have HF2 := Lib.hid (HF1.out.still hg2); clear HF1
  go_wp2_with fail
  go_ret
  exact ⟨ret_bool (by unfold askedB; rw [HG.out]; rfl), (HF2.out.below_of hbA (by omega) (by omega))⟩

set_option maxHeartbeats 4000000 in
set_option maxRecDepth 100000 in
theorem deAsked_any (v1 : Value) (N : NetD) (lo1 hi1 : Nat) (v2 : Value) (D : DecD) (lo2 hi2 : Nat) (w : World) (h1 : Net w lo1 hi1 v1 N) (hh1 : hi1 ≤ w.heap.size) (h2 : Dec w lo2 hi2 v2 D) (hh2 : hi2 ≤ w.heap.size) (hz1 : N.sz ≤ 1048576) (hz2 : D.sz ≤ 1048576) :
    Calls Try.prog 23 #[v1, v2] w fun e w' => e = .returned (.bool (askedB N D)) ∧ Below w.heap.size w w' := by
  have F1 := Lib.hid h1
  obtain ⟨A1, c1, A1', c1', A1'', c1'', rfl, hc1, hd1, _⟩ := h1.parts
  clear h1
  have F2 := Lib.hid h2
  obtain ⟨A2, c2, A2', c2', rfl, hc2, hd2⟩ := h2.parts
  clear h2
  obtain ⟨WA, HWA⟩ : ∃ W, Hid (W = ((w.alloc (.cells #[.slice A1 N.ends.length c1, .slice A1' N.ids.length c1', .slice A1'' N.inputs.length c1''] 34)).alloc (.cells #[.slice A2 D.cluster.length c2, .slice A2' D.colour.length c2'] 36))) := ⟨_, Lib.hid rfl⟩
  have hbA : Below w.heap.size w WA := by rw [HWA.out]; exact (((Below.refl _ _).alloc (Nat.le_refl _) _).alloc (by simp; try omega) _)
  have hsA : w.heap.size + 2 ≤ WA.heap.size := by rw [HWA.out]; simp; try omega
  have bx1 : BoxN WA (w.heap.size) #[.slice A1 N.ends.length c1, .slice A1' N.ids.length c1', .slice A1'' N.inputs.length c1''] 34 := by rw [HWA.out]; exact (BoxN.new' _ _ _ (by simp)).still (grown_alloc _ _)
  have bx2 : BoxN WA (w.heap.size + 1) #[.slice A2 D.cluster.length c2, .slice A2' D.colour.length c2'] 36 := by rw [HWA.out]; exact (BoxN.new' _ _ _ (by simp))
  have G1 := Lib.hid (Net.below F1.out hbA hh1); clear F1
  have G2 := Lib.hid (Dec.below F2.out hbA hh2); clear F2
  go_enter Try.func23, Try.ntmps23
  go_upto_region 1 with (fail)
  rw [← HWA.out]; clear HWA
  have kbx1_0 : WA.cell? ⟨w.heap.size, 0, none⟩ = some (.slice A1 N.ends.length c1) := bx1.cell 0 (by simp)
  have kbx1_1 : WA.cell? ⟨w.heap.size, 1, none⟩ = some (.slice A1' N.ids.length c1') := bx1.cell 1 (by simp)
  have kbx1_2 : WA.cell? ⟨w.heap.size, 2, none⟩ = some (.slice A1'' N.inputs.length c1'') := bx1.cell 2 (by simp)
  go_wp2_with fail
  clear kbx1_0 kbx1_1 kbx1_2
  refine (neGood_any _ N lo1 hi1 _ G1.out (by omega) hz1).mono ?_
  rintro e W1 ⟨rfl, hb1⟩
  have hg1 := grown_below hb1; clear hb1
  have hs1 := hg1.size
  have HF1 := Lib.hid ((Turned.refl WA.heap.size WA.heap.size WA).still hg1)
  by_cases hg : N.good = true
  case neg =>
    have hg' : N.good = false := by simpa using hg
    rw [hg']
    have HG := Lib.hid hg'; clear hg hg'
    go_wp2_with fail
    go_ret
    exact ⟨ret_bool (by unfold askedB; rw [HG.out]; rfl), (HF1.out.below_of hbA (by omega) (by omega))⟩
  rw [hg]
  have HG := Lib.hid hg; clear hg
  have kbx1_0 : W1.cell? ⟨w.heap.size, 0, none⟩ = some (.slice A1 N.ends.length c1) := (HF1.out.boxN bx1 (by omega)).cell 0 (by simp)
  have kbx1_1 : W1.cell? ⟨w.heap.size, 1, none⟩ = some (.slice A1' N.ids.length c1') := (HF1.out.boxN bx1 (by omega)).cell 1 (by simp)
  have kbx1_2 : W1.cell? ⟨w.heap.size, 2, none⟩ = some (.slice A1'' N.inputs.length c1'') := (HF1.out.boxN bx1 (by omega)).cell 2 (by simp)
  have kbx2_0 : W1.cell? ⟨w.heap.size + 1, 0, none⟩ = some (.slice A2 D.cluster.length c2) := (HF1.out.boxN bx2 (by omega)).cell 0 (by simp)
  have kbx2_1 : W1.cell? ⟨w.heap.size + 1, 1, none⟩ = some (.slice A2' D.colour.length c2') := (HF1.out.boxN bx2 (by omega)).cell 1 (by simp)
  go_wp2_with fail
  clear kbx1_0 kbx1_1 kbx1_2 kbx2_0 kbx2_1
  refine (deGood_any _ N lo1 hi1 _ D lo2 hi2 _ (Net.turned G1.out HF1.out (by omega) (by omega)) (by omega) (Dec.turned G2.out HF1.out (by omega) (by omega)) (by omega) HG.out hz2).mono ?_
  rintro e W2 ⟨rfl, hb2⟩
  have hg2 := grown_below hb2; clear hb2
  have hs2 := hg2.size
  have HF2 := Lib.hid (HF1.out.still hg2); clear HF1
  go_wp2_with fail
  go_ret
  exact ⟨ret_bool (by unfold askedB; rw [HG.out]; rfl), (HF2.out.below_of hbA (by omega) (by omega))⟩

def weakOut (N : NetD) (D : DecD) : Int := if askedB N D = true then weakR N D else 0
theorem askedB_parts {N : NetD} {D : DecD} (h : askedB N D = true) : N.good = true ∧ DecGood N D := by
  unfold askedB at h; rw [Bool.and_eq_true] at h; exact ⟨h.1, decB_is h.2⟩
theorem diams_at {N : NetD} {l : List Int} {m : Nat} {x : Int} (hg : N.good = true) (hl : l.length = N.ends.length) (h : x ∈ diams N l m) : 0 ≤ x ∧ x ≤ 40 := by
  unfold diams at h
  rw [List.mem_map] at h
  obtain ⟨c, _, rfl⟩ := h
  exact wide_le hg (clusN_node hl c)
theorem diams_take {N : NetD} {l : List Int} {m k : Nat} (h : k < m) : mostI ((diams N l m).take (k + 1)) = if wide N (clusN l k) < mostI ((diams N l m).take k) then mostI ((diams N l m).take k) else wide N (clusN l k) := by
  rw [mostI_take (by rw [diams_length]; exact h), nth_diams h]

end Go.Proofs.Ytcmmklcampmkjaa
