/-
  Contracts: components of a network (program and reference), the greatest of some numbers.
-/
import Derived.Test.YtcmmklcampmkjaaCompP
import Derived.Test.YtcmmklcampmkjaaFrame
import Derived.Test.YtcmmklcampmkjaaRepeat
import Derived.Test.YtcmmklcampmkjaaDistI
import Derived.Test.YtcmmklcampmkjaaNearP
import Derived.Test.YtcmmklcampmkjaaShelf
namespace Go.Proofs.Ytcmmklcampmkjaa
open Go.ChangeShapes Go.WideShapes Go.ChangeAt Go.RowKit
set_option linter.unusedVariables false

theorem foldl_max_mostI : ∀ (zs : List Int) (a : Int), 0 ≤ a → zs.foldl max a = zs.foldl (fun a x => if x < a then a else x) a
  | [], a, _ => rfl
  | x :: zs, a, h => by
    rw [List.foldl_cons, List.foldl_cons]
    have e : max a x = if x < a then a else x := by split <;> omega
    rw [e]
    exact foldl_max_mostI zs _ (by split <;> omega)
theorem maxOf_mostI {zs : List Int} (hn : 0 < zs.length) (h0 : ∀ x ∈ zs, 0 ≤ x) : Lib.maxOf zs = mostI zs := by
  cases zs with
  | nil => simp at hn
  | cons x zs =>
    have hx := h0 x (List.mem_cons_self ..)
    unfold Lib.maxOf mostI
    rw [List.headD_cons, List.foldl_cons, List.foldl_cons, if_neg (by omega), show max x x = x by omega]
    exact foldl_max_mostI zs x hx
theorem slicesMax_any (v : Value) (zs : List Int) (lo hi : Nat) (w : World) (h : IntS w lo hi v zs) (hn : 0 < zs.length) (h0 : ∀ x ∈ zs, 0 ≤ x) :
    Calls Try.prog 35 #[v] w fun e w' => e = .returned (.int .i64 (mostI zs)) ∧ w = w' := by
  obtain ⟨A, c, rfl, hc, hd⟩ := h.dims
  obtain ⟨b, off, rfl, _⟩ := h.opened hn
  refine (Try.slices_Max_int b off zs.length c zs w hn (Nat.le_refl _) (by omega) (fun j hj => (h.at_ hj).1)).mono ?_
  rintro e w' ⟨rfl, rfl⟩
  rw [List.take_length, maxOf_mostI hn h0]
  exact ⟨rfl, rfl⟩

theorem classCount_any (v : Value) (zs : List Int) (lo hi : Nat) (w : World) (h : IntS w lo hi v zs) (hn : 0 < zs.length) (h0 : ∀ x ∈ zs, 0 ≤ x) (hb : ∀ x ∈ zs, x ≤ 1048576) :
    Calls Try.prog 60 #[v] w fun e w' => e = .returned (.int .i64 (mostI zs + 1)) ∧ w = w' := by
  have h1 : 0 ≤ mostI zs ∧ mostI zs ≤ 1048576 := by
    obtain ⟨a, b, c⟩ := mostI_spec zs
    refine ⟨a, ?_⟩
    rcases c with c | c
    · omega
    · exact hb _ c
  have HM := Lib.hid (slicesMax_any v zs lo hi w h hn h0)
  obtain ⟨A, c, rfl, hc, hd⟩ := h.dims
  clear h
  obtain ⟨m, hm⟩ : ∃ m, Hid (mostI zs = m) := ⟨_, Lib.hid rfl⟩
  rw [hm.out] at h1 HM ⊢
  have H0 := Lib.hid h0; have HB := Lib.hid hb; clear h0 hb
  obtain ⟨h1, h2⟩ := h1
  go_enter Try.func60, Try.ntmps60
  go_wp2_with (go_at_call 35; refine HM.out.mono ?_; rintro e w' ⟨rfl, rfl⟩)
  go_ret
  exact ⟨rfl, rfl⟩
theorem l1Most_any (a b : Int) (w : World) : Calls Try.prog 27 #[.int .i64 a, .int .i64 b] w fun e w' => e = .returned (.int .i64 (if b < a then a else b)) ∧ w = w' := by
  by_cases h : b < a
  · go_enter Try.func27, Try.ntmps27
    go_wp2
    go_ret
    exact ⟨rfl, rfl⟩
  · go_enter Try.func27, Try.ntmps27
    go_wp2
    go_ret
    exact ⟨rfl, rfl⟩

set_option maxHeartbeats 4000000 in
set_option maxRecDepth 100000 in
theorem meMost_any (v1 : Value) (zs : List Int) (lo1 hi1 : Nat) (w : World) (h1 : IntS w lo1 hi1 v1 zs) (hh1 : hi1 ≤ w.heap.size)  :
    Calls Try.prog 55 #[v1] w fun e w' => e = .returned (.int .i64 (mostI zs)) ∧ w = w' := by
  have F1 := Lib.hid h1
  obtain ⟨A1, c1, rfl, hc1, hd1⟩ := h1.dims
  clear h1
  go_enter Try.func55, Try.ntmps55
  go_wp2_with fail
  go_loop [8, 3] (fun i ov => ∃ (k : Nat) (m : Int), k ≤ zs.length ∧ i = .int .i64 k ∧ ov = .int .i64 m ∧ Hid (m = mostI (zs.take k))) (fun i ov => zs.length - (intOf i).toNat)
  case atStart => exact ⟨0, 0, Nat.zero_le _, rfl, rfl, Lib.hid rfl⟩
  case round =>
    obtain ⟨k, m, hk, rfl, rfl, HM⟩ := hrel
    by_cases hlt : k < zs.length
    case neg =>
      obtain rfl : k = zs.length := by omega
      go_wp2_with fail
      go_ret
      exact ⟨ret_int (by rw [HM.out, List.take_length]), rfl⟩
    obtain ⟨be, oe, rfl, _, hbe', xe, _⟩ := F1.out.opened hlt
    obtain ⟨y, HY⟩ : ∃ y, Hid (nth zs k = y) := ⟨_, Lib.hid rfl⟩
    rw [HY.out] at xe
    have HN := Lib.hid (show (if y < m then m else y) = mostI (zs.take (k + 1)) by rw [mostI_take hlt, ← HM.out, HY.out])
    go_wp2_with (go_at_call 27; refine (l1Most_any _ _ _).mono ?_; rintro e w' ⟨rfl, rfl⟩; rw [HN.out])
    go_round
    case rel => exact ⟨k + 1, _, by omega, by go_num, rfl, Lib.hid rfl⟩
    case measure => simp [intOf]; omega

set_option maxHeartbeats 4000000 in
set_option maxRecDepth 100000 in
theorem components_any (v1 : Value) (N : NetD) (lo1 hi1 : Nat) (w : World) (h1 : Net w lo1 hi1 v1 N) (hh1 : hi1 ≤ w.heap.size) (hg : N.good = true) :
    Calls Try.prog 93 #[v1] w fun e w' => ∃ r, e = .returned (r) ∧ IntS w' w.heap.size w'.heap.size r (compAll N) ∧ Below w.heap.size w w' := by
  obtain ⟨n1, n40⟩ := good_n hg
  have HG := Lib.hid hg; clear hg
  have F1 := Lib.hid h1
  obtain ⟨A1, c1, A1', c1', A1'', c1'', rfl, hc1, hd1, _⟩ := h1.parts
  obtain ⟨b1, o1, _, _, rfl, _⟩ := Net.rowAt F1.out (u := 0) (by omega)
  clear h1
  obtain ⟨WA, HWA⟩ : ∃ W, Hid (W = (w.alloc (.cells #[.slice (some ⟨b1, o1, none⟩) N.ends.length c1, .slice A1' N.ids.length c1', .slice A1'' N.inputs.length c1''] 34))) := ⟨_, Lib.hid rfl⟩
  have hbA : Below w.heap.size w WA := by rw [HWA.out]; exact ((Below.refl _ _).alloc (Nat.le_refl _) _)
  have hsA : w.heap.size + 1 ≤ WA.heap.size := by rw [HWA.out]; simp; try omega
  have bx1 : BoxN WA (w.heap.size) #[.slice (some ⟨b1, o1, none⟩) N.ends.length c1, .slice A1' N.ids.length c1', .slice A1'' N.inputs.length c1''] 34 := by rw [HWA.out]; exact (BoxN.new' _ _ _ (by simp))
  have G1 := Lib.hid (Net.below F1.out hbA hh1); clear F1
  go_enter Try.func93, Try.ntmps93
  go_upto_region 1 with (fail)
  rw [← HWA.out]; clear HWA
  have kq : (WA.alloc (.cells #[.int .i64 (-1)] 3)).cell? ⟨w.heap.size, 0, none⟩ = some (.slice (some ⟨b1, o1, none⟩) N.ends.length c1) := (bx1.still (grown_alloc _ _)).cell 0 (by simp)
  go_wp2_with fail
  clear kq
  refine (repeat1_any _ (-1) N.ends.length WA.heap.size (WA.heap.size + 1) _ (IntS.one WA (-1) _ rfl) (by simp) (by omega)).mono ?_
  rintro e W1 ⟨ro, rfl, hro, hb1⟩
  have hg1 := grownBy_trans (grown_alloc _ _) (grown_below hb1); clear hb1
  replace hro := IntS.mono (lo' := WA.heap.size) hro (by simp) (Nat.le_refl _)
  have hs1 := hg1.size
  have HF1 := Lib.hid ((Turned.refl WA.heap.size WA.heap.size WA).still hg1)
  have O1 := Lib.hid hro; clear hro
  obtain ⟨Ao, co, rfl, hco, hdo⟩ := O1.out.dims
  obtain ⟨bo, oo, rfl, lbo, hbo, _, _⟩ := IntS.opened O1.out (j := 0) (by simp; omega)
  rw [List.length_replicate] at hco ⊢
  have N_1 := Lib.hid (Net.turned G1.out HF1.out (by omega) (by omega)); clear G1
  have bx1_1 := HF1.out.boxN bx1 (by omega); clear bx1
  have hbA1 := (HF1.out.below_of hbA (by omega) (by omega)); clear hbA HF1
  rw [List.length_replicate] at O1
  go_wp2_with fail
  go_loopw [14] (fun i wr => ∃ (k : Nat) (zs : List Int), k ≤ N.ends.length ∧ i = .int .i64 k ∧ Hid (IntS wr WA.heap.size W1.heap.size (.slice (some ⟨bo, oo, none⟩) N.ends.length co) zs) ∧ Hid (CompAt N k zs) ∧ Hid (zs.length = N.ends.length) ∧ Hid (Turned WA.heap.size W1.heap.size W1 wr)) (fun i _ => N.ends.length - (intOf i).toNat)
  case atStart => exact ⟨0, _, Nat.zero_le _, rfl, O1, Lib.hid (CompAt.start N), Lib.hid (by simp), Lib.hid (Turned.refl WA.heap.size W1.heap.size W1)⟩
  case round =>
    obtain ⟨k, zs, hk, rfl, HO, HC, HL, HF2⟩ := hrel
    have hs2 := HF2.out.size
    by_cases hlt : k < N.ends.length
    case neg =>
      obtain rfl : k = N.ends.length := by omega
      go_wp2_with fail
      go_ret
      refine ⟨_, rfl, ?_, (HF2.out.below_of hbA1 (by omega) (by omega))⟩
      rw [← HC.out.all HG.out]
      exact HO.out.mono (by omega) (by omega)
    obtain ⟨y1, _⟩ := HO.out.at_ (j := k) (by rw [HL.out]; exact hlt)
    obtain ⟨y, HY⟩ : ∃ y, Hid (nth zs k = y) := ⟨_, Lib.hid rfl⟩
    rw [HY.out] at y1
    by_cases hy : 0 ≤ y
    case pos =>
      go_wp2_with fail
      go_roundw
      case rel => exact ⟨k + 1, zs, by omega, by go_num, HO, Lib.hid (HC.out.skip HG.out hlt (by rw [HY.out]; exact hy)), HL, HF2⟩
      case measure => simp [intOf]; omega
    have HNK := Lib.hid (HC.out.neg hlt (by rw [HY.out]; exact hy))
    have kbx1_0 : wr.cell? ⟨w.heap.size, 0, none⟩ = some (.slice (some ⟨b1, o1, none⟩) N.ends.length c1) := (HF2.out.boxN bx1_1 (by omega)).cell 0 (by simp)
    have kbx1_1 : wr.cell? ⟨w.heap.size, 1, none⟩ = some (.slice A1' N.ids.length c1') := (HF2.out.boxN bx1_1 (by omega)).cell 1 (by simp)
    have kbx1_2 : wr.cell? ⟨w.heap.size, 2, none⟩ = some (.slice A1'' N.inputs.length c1'') := (HF2.out.boxN bx1_1 (by omega)).cell 2 (by simp)
    go_wp2_with fail
    clear kbx1_0 kbx1_1 kbx1_2 y1
    refine (distancesFrom_any _ N k lo1 hi1 _ (Net.turned N_1.out HF2.out (by omega) (by omega)) (by omega) hlt (by omega) (good_nodes HG.out) (good_degs HG.out)).mono ?_
    rintro e W3 ⟨rd, rfl, hrd, hb3⟩
    have hg3 := grown_below hb3; clear hb3
    have hs3 := hg3.size
    have HF3 := Lib.hid (HF2.out.still hg3); clear HF2
    have O3 := Lib.hid (IntS.still HO.out hg3 (by omega)); clear HO
    have R3 := Lib.hid hrd; clear hrd
    obtain ⟨wo, rfl⟩ : ∃ wo : World, wo = wr := ⟨_, rfl⟩
    obtain ⟨Ar, cr, rfl, hcr, hdr⟩ := R3.out.dims
    have HDL := Lib.hid (dist_len (good_nodes HG.out) hlt)
    rw [HDL.out] at hcr ⊢
    obtain ⟨bR, oR, rfl, _, hbR, _, _⟩ := IntS.opened R3.out (j := 0) (by rw [HDL.out]; omega)
    rw [HDL.out] at R3
    go_wp2_with fail
    go_loopw [26] (fun i wr => ∃ (m : Nat) (ys : List Int), m ≤ N.ends.length ∧ i = .int .i64 m ∧ Hid (IntS wr WA.heap.size W1.heap.size (.slice (some ⟨bo, oo, none⟩) N.ends.length co) ys) ∧ Hid (IntS wr wo.heap.size W3.heap.size (.slice (some ⟨bR, oR, none⟩) N.ends.length cr) (dist N k)) ∧ Hid (CompMid N k m ys) ∧ Hid (ys.length = N.ends.length) ∧ W3.heap.size ≤ wr.heap.size ∧ Hid (Turned WA.heap.size W1.heap.size W1 wr)) (fun i _ => N.ends.length - (intOf i).toNat)
    case atStart => exact ⟨0, zs, Nat.zero_le _, rfl, O3, R3, Lib.hid HC.out.mid, HL, Nat.le_refl _, HF3⟩
    case round =>
      clear HF3
      obtain ⟨m, ys, hm, rfl, HO, HR, HM, HL2, hz, HF4⟩ := hrel
      have hs4 := HF4.out.size
      by_cases hml : m < N.ends.length
      case neg =>
        obtain rfl : m = N.ends.length := by omega
        go_wp2_with fail
        go_roundw
        case rel => exact ⟨k + 1, ys, by omega, by go_num, HO, Lib.hid (HM.out.done HG.out hlt HNK.out), HL2, HF4⟩
        case measure => simp [intOf]; omega
      obtain ⟨x1, _⟩ := HR.out.at_ (j := m) (by rw [HDL.out]; exact hml)
      obtain ⟨y1, y2⟩ := HO.out.at_ (j := m) (by rw [HL2.out]; exact hml)
      obtain ⟨d, HDD⟩ : ∃ d, Hid (nth (dist N k) m = d) := ⟨_, Lib.hid rfl⟩
      obtain ⟨y, HY2⟩ : ∃ y, Hid (nth ys m = y) := ⟨_, Lib.hid rfl⟩
      rw [HDD.out] at x1
      rw [HY2.out] at y1
      have hmi : (m : Int) < N.ends.length := by omega
      by_cases hd : 0 ≤ d
      case neg =>
        have HMN := Lib.hid (HM.out.no (by rw [HDD.out]; exact hd))
        go_wp2_with fail
        go_roundw
        case rel => exact ⟨m + 1, ys, by omega, by go_num, HO, HR, HMN, HL2, hz, HF4⟩
        case measure => simp [intOf]; omega
      have HMY := Lib.hid (HM.out.yes hml (by rw [HDD.out]; exact hd))
      have HS := Lib.hid (HO.out.set (j := m) (by rw [HL2.out]; exact hml) k)
      have HFN := Lib.hid (HF4.out.grown (grown_set wr ⟨bo, oo + m, none⟩ (.int .i64 k)) fun g hg => .inl (by cases hg; exact ⟨by show _ ≤ bo; omega, by show bo < _; omega⟩))
      have HRN := Lib.hid (HR.out.setCell (p := ⟨bo, oo + m, none⟩) (.inl (by show bo < _; omega)) (.int .i64 k))
      go_wp2_with fail
      go_roundw
      case rel => exact ⟨m + 1, _, by omega, by go_num, HS, HRN, HMY, Lib.hid (by rw [List.length_set]; exact HL2.out), by rw [size_setCell]; omega, HFN⟩
      case measure => simp [intOf]; omega

def ballL (ds : List Int) (r : Int) (m : Nat) : List Int := ((List.range m).filter fun w => inB (nth ds w) 0 r).map fun (w : Nat) => (w : Int)
theorem ballL_yes {ds : List Int} {r : Int} {m : Nat} (h : inB (nth ds m) 0 r = true) : ballL ds r (m + 1) = ballL ds r m ++ [(m : Int)] := by simp [ballL, List.range_succ, h]
theorem ballL_no {ds : List Int} {r : Int} {m : Nat} (h : inB (nth ds m) 0 r = false) : ballL ds r (m + 1) = ballL ds r m := by simp [ballL, List.range_succ, h]
theorem ballL_len (ds : List Int) (r : Int) (m : Nat) : (ballL ds r m).length ≤ m := by
  unfold ballL; rw [List.length_map]; exact Nat.le_trans (List.length_filter_le _ _) (by simp)
def ball (N : NetD) (v : Nat) (r : Int) : List Int := ballL (dist N v) r N.ends.length
theorem filter_head {p : Nat → Bool} : ∀ {n c : Nat}, c < n → p c = true → (∀ j, j < c → p j = false) → ∃ l, (List.range n).filter p = c :: l := by
  intro n c hc hp hb
  have h1 : List.range n = List.range c ++ (List.range (n - c)).map (c + ·) := by
    rw [← List.range_add]; congr 1; omega
  have h2 : (List.range c).filter p = [] := by
    rw [List.filter_eq_nil_iff]
    intro a ha
    rw [hb a (List.mem_range.1 ha)]; simp
  have h3 : n - c = (n - c - 1) + 1 := by omega
  rw [h1, List.filter_append, h2, List.nil_append, h3, List.range_succ_eq_map, List.map_cons, List.filter_cons, Nat.add_zero, if_pos hp]
  exact ⟨_, rfl⟩
theorem ball_head {N : NetD} (hg : N.good = true) {v : Nat} (hv : v < N.ends.length) : ∃ l, ball N v 40 = (comp N v : Int) :: l := by
  obtain ⟨a, b, c⟩ := comp_spec hg hv
  obtain ⟨n1, n40⟩ := good_n hg
  have hlow := fun {j} (hj : j < N.ends.length) => dist_low (good_nodes hg) hv hj
  obtain ⟨l, e⟩ := filter_head (p := fun w => inB (nth (dist N v) w) 0 40) a (by
    have := hlow a
    unfold Reach at b
    exact inB_true b (by omega)) (fun j hj => by
    have := c j hj
    unfold Reach at this
    exact inB_low (by omega))
  refine ⟨l.map fun (w : Nat) => (w : Int), ?_⟩
  unfold ball ballL
  rw [e]; rfl

set_option maxHeartbeats 4000000 in
set_option maxRecDepth 100000 in
theorem meBall_any (v1 : Value) (N : NetD) (lo1 hi1 : Nat) (v : Nat) (r : Int) (w : World) (h1 : Net w lo1 hi1 v1 N) (hh1 : hi1 ≤ w.heap.size) (hg : N.good = true) (hv : v < N.ends.length) :
    Calls Try.prog 86 #[v1, .int .i64 (v : Nat), .int .i64 r] w fun e w' => ∃ q, e = .returned (q) ∧ IntS w' w.heap.size w'.heap.size q (ball N v r) ∧ Below w.heap.size w w' := by
  obtain ⟨n1, n40⟩ := good_n hg
  have HG := Lib.hid hg; clear hg
  have F1 := Lib.hid h1
  obtain ⟨A1, c1, A1', c1', A1'', c1'', rfl, hc1, hd1, _⟩ := h1.parts
  obtain ⟨b1, o1, _, _, rfl, _⟩ := Net.rowAt F1.out (u := 0) (by omega)
  clear h1
  obtain ⟨WA, HWA⟩ : ∃ W, Hid (W = (w.alloc (.cells #[.slice (some ⟨b1, o1, none⟩) N.ends.length c1, .slice A1' N.ids.length c1', .slice A1'' N.inputs.length c1''] 34))) := ⟨_, Lib.hid rfl⟩
  have hbA : Below w.heap.size w WA := by rw [HWA.out]; exact ((Below.refl _ _).alloc (Nat.le_refl _) _)
  have hsA : w.heap.size + 1 ≤ WA.heap.size := by rw [HWA.out]; simp; try omega
  have bx1 : BoxN WA (w.heap.size) #[.slice (some ⟨b1, o1, none⟩) N.ends.length c1, .slice A1' N.ids.length c1', .slice A1'' N.inputs.length c1''] 34 := by rw [HWA.out]; exact (BoxN.new' _ _ _ (by simp))
  have G1 := Lib.hid (Net.below F1.out hbA hh1); clear F1
  go_enter Try.func86, Try.ntmps86
  go_upto_region 1 with (fail)
  rw [← HWA.out]; clear HWA
  have kbx1_0 : WA.cell? ⟨w.heap.size, 0, none⟩ = some (.slice (some ⟨b1, o1, none⟩) N.ends.length c1) := bx1.cell 0 (by simp)
  have kbx1_1 : WA.cell? ⟨w.heap.size, 1, none⟩ = some (.slice A1' N.ids.length c1') := bx1.cell 1 (by simp)
  have kbx1_2 : WA.cell? ⟨w.heap.size, 2, none⟩ = some (.slice A1'' N.inputs.length c1'') := bx1.cell 2 (by simp)
  go_wp2_with fail
  clear kbx1_0 kbx1_1 kbx1_2
  refine (meFrom_any _ N v lo1 hi1 _ G1.out (by omega) hv (by omega) (good_nodes HG.out) (good_degs HG.out)).mono ?_
  rintro e W1 ⟨rd, rfl, hrd, hb1⟩
  have hg1 := grown_below hb1; clear hb1
  have hs1 := hg1.size
  have HF1 := Lib.hid ((Turned.refl WA.heap.size WA.heap.size WA).still hg1)
  have R1 := Lib.hid hrd; clear hrd
  obtain ⟨Ar, cr, rfl, hcr, hdr⟩ := R1.out.dims
  have HDL := Lib.hid (dist_len (good_nodes HG.out) hv)
  rw [HDL.out] at hcr ⊢
  obtain ⟨bR, oR, rfl, _, hbR, _, _⟩ := IntS.opened R1.out (j := 0) (by rw [HDL.out]; omega)
  rw [HDL.out] at R1
  have N_1 := Lib.hid (Net.turned G1.out HF1.out (by omega) (by omega)); clear G1
  have bx1_1 := HF1.out.boxN bx1 (by omega); clear bx1
  have hbA1 := (HF1.out.below_of hbA (by omega) (by omega)); clear hbA HF1
  go_wp2_with fail
  go_loopw [14, 7] (fun i ov wr => ∃ (m : Nat), m ≤ N.ends.length ∧ i = .int .i64 m ∧ Hid (OwnI wr W1.heap.size 3 ov (ballL (dist N v) r m)) ∧ Hid (Turned W1.heap.size W1.heap.size W1 wr)) (fun i ov _ => N.ends.length - (intOf i).toNat)
  case atStart => exact ⟨0, Nat.zero_le _, rfl, Lib.hid (OwnI.nil _ _ _), Lib.hid (Turned.refl W1.heap.size W1.heap.size W1)⟩
  case round =>
    obtain ⟨m, hm, rfl, HO, HF2⟩ := hrel
    have hs2 := HF2.out.size
    have hul := ballL_len (dist N v) r m
    by_cases hml : m < N.ends.length
    case neg =>
      obtain rfl : m = N.ends.length := by omega
      obtain ⟨Az, cz, rfl, hcz, hdz⟩ := HO.out.ints.dims
      go_wp2_with fail
      go_ret
      exact ⟨_, rfl, HO.out.ints.mono (by omega) (Nat.le_refl _), (HF2.out.below_of hbA1 (by omega) (by omega))⟩
    obtain ⟨x1, _⟩ := ((IntS.turned R1.out HF2.out (by omega) (by omega))).at_ (j := m) (by rw [HDL.out]; exact hml)
    obtain ⟨d, HDD⟩ : ∃ d, Hid (nth (dist N v) m = d) := ⟨_, Lib.hid rfl⟩
    rw [HDD.out] at x1
    have hmi : (m : Int) < N.ends.length := by omega
    have hlv := HO.out.lt
    cases hin : inB d 0 r with
    | false =>
      have HIN := Lib.hid hin; clear hin
      have HB := Lib.hid (ballL_no (ds := dist N v) (r := r) (m := m) (by rw [HDD.out]; exact HIN.out))
      go_wp2_with (go_at_call 70; refine (l1In_any _ _ _ _).mono ?_; rintro e w' ⟨rfl, rfl⟩; rw [HIN.out])
      go_roundw
      case rel => exact ⟨m + 1, by omega, by go_num, by rw [HB.out]; exact HO, HF2⟩
      case measure => simp [intOf]; omega
    | true =>
      have HIN := Lib.hid hin; clear hin
      have HB := Lib.hid (ballL_yes (ds := dist N v) (r := r) (m := m) (by rw [HDD.out]; exact HIN.out))
      go_wp2_with (first | (go_at_call 70; refine (l1In_any _ _ _ _).mono ?_; rintro e w' ⟨rfl, rfl⟩; rw [HIN.out]) | (at_builtin; refine append_int (s := .tmp 22) Try.underlying23 Try.info3 (by decide) wr rfl _ rfl HO.out m _ rfl (by simp [Act.eval, go_sem]) (by omega) (by omega) ?_; intro v' w' ho' hg' hat'))
      go_roundw
      case rel => exact ⟨m + 1, by omega, by go_num, by rw [HB.out]; exact Lib.hid ho', Lib.hid (HF2.out.grown hg' fun g hg => .inr (hlv g hg).1)⟩
      case measure => simp [intOf]; omega

set_option maxHeartbeats 4000000 in
set_option maxRecDepth 100000 in
theorem meParts_any (v1 : Value) (N : NetD) (lo1 hi1 : Nat) (w : World) (h1 : Net w lo1 hi1 v1 N) (hh1 : hi1 ≤ w.heap.size) (hg : N.good = true) :
    Calls Try.prog 88 #[v1] w fun e w' => ∃ q, e = .returned (q) ∧ IntS w' w.heap.size w'.heap.size q (compAll N) ∧ Below w.heap.size w w' := by
  obtain ⟨n1, n40⟩ := good_n hg
  have HG := Lib.hid hg; clear hg
  have F1 := Lib.hid h1
  obtain ⟨A1, c1, A1', c1', A1'', c1'', rfl, hc1, hd1, _⟩ := h1.parts
  obtain ⟨b1, o1, _, _, rfl, _⟩ := Net.rowAt F1.out (u := 0) (by omega)
  clear h1
  obtain ⟨WA, HWA⟩ : ∃ W, Hid (W = (w.alloc (.cells #[.slice (some ⟨b1, o1, none⟩) N.ends.length c1, .slice A1' N.ids.length c1', .slice A1'' N.inputs.length c1''] 34))) := ⟨_, Lib.hid rfl⟩
  have hbA : Below w.heap.size w WA := by rw [HWA.out]; exact ((Below.refl _ _).alloc (Nat.le_refl _) _)
  have hsA : w.heap.size + 1 ≤ WA.heap.size := by rw [HWA.out]; simp; try omega
  have bx1 : BoxN WA (w.heap.size) #[.slice (some ⟨b1, o1, none⟩) N.ends.length c1, .slice A1' N.ids.length c1', .slice A1'' N.inputs.length c1''] 34 := by rw [HWA.out]; exact (BoxN.new' _ _ _ (by simp))
  have G1 := Lib.hid (Net.below F1.out hbA hh1); clear F1
  go_enter Try.func88, Try.ntmps88
  go_upto_region 1 with (fail)
  rw [← HWA.out]; clear HWA
  have kbx1_0 : WA.cell? ⟨w.heap.size, 0, none⟩ = some (.slice (some ⟨b1, o1, none⟩) N.ends.length c1) := bx1.cell 0 (by simp)
  have kbx1_1 : WA.cell? ⟨w.heap.size, 1, none⟩ = some (.slice A1' N.ids.length c1') := bx1.cell 1 (by simp)
  have kbx1_2 : WA.cell? ⟨w.heap.size, 2, none⟩ = some (.slice A1'' N.inputs.length c1'') := bx1.cell 2 (by simp)
  go_wp2_with fail
  clear kbx1_0 kbx1_1 kbx1_2
  go_loopw [8, 3] (fun i ov wr => ∃ (k : Nat) (zs : List Int), k ≤ N.ends.length ∧ i = .int .i64 k ∧ Hid (OwnI wr WA.heap.size 3 ov zs) ∧ Hid (zs = (compAll N).take k) ∧ zs.length ≤ k ∧ Hid (Turned WA.heap.size WA.heap.size WA wr)) (fun i ov _ => N.ends.length - (intOf i).toNat)
  case atStart => exact ⟨0, [], Nat.zero_le _, rfl, Lib.hid (OwnI.nil _ _ _), Lib.hid (by simp), Nat.zero_le _, Lib.hid (Turned.refl WA.heap.size WA.heap.size WA)⟩
  case round =>
    obtain ⟨k, zs, hk, rfl, HO, HD, hl, HF1⟩ := hrel
    have hs1 := HF1.out.size
    by_cases hlt : k < N.ends.length
    case neg =>
      obtain rfl : k = N.ends.length := by omega
      obtain ⟨Az, cz, rfl, hcz, hdz⟩ := HO.out.ints.dims
      go_wp2_with fail
      go_ret
      refine ⟨_, rfl, ?_, (HF1.out.below_of hbA (by omega) (by omega))⟩
      have e : compAll N = zs := by rw [HD.out, ← compAll_length N, List.take_length]
      rw [e]
      exact HO.out.ints.mono (by omega) (Nat.le_refl _)
    have kbx1_0 : wr.cell? ⟨w.heap.size, 0, none⟩ = some (.slice (some ⟨b1, o1, none⟩) N.ends.length c1) := (HF1.out.boxN bx1 (by omega)).cell 0 (by simp)
    have kbx1_1 : wr.cell? ⟨w.heap.size, 1, none⟩ = some (.slice A1' N.ids.length c1') := (HF1.out.boxN bx1 (by omega)).cell 1 (by simp)
    have kbx1_2 : wr.cell? ⟨w.heap.size, 2, none⟩ = some (.slice A1'' N.inputs.length c1'') := (HF1.out.boxN bx1 (by omega)).cell 2 (by simp)
    go_wp2_with fail
    clear kbx1_0 kbx1_1 kbx1_2
    refine (meBall_any _ N lo1 hi1 k 40 _ (Net.turned G1.out HF1.out (by omega) (by omega)) (by omega) HG.out hlt).mono ?_
    rintro e W2 ⟨rd, rfl, hrd, hb2⟩
    have hg2 := grown_below hb2; clear hb2
    have hs2 := hg2.size
    have HF2 := Lib.hid (HF1.out.still hg2); clear HF1
    have O2 := Lib.hid (OwnI.still HO.out hg2); clear HO
    have R2 := Lib.hid hrd; clear hrd
    obtain ⟨l, hbl⟩ := ball_head HG.out hlt
    have HBL := Lib.hid hbl
    have R9 := Lib.hid R2.out
    rw [hbl] at R9
    clear hbl
    obtain ⟨As, cs, rfl, hcs, hds⟩ := R9.out.dims
    obtain ⟨bR, oR, rfl, _, hbR, x1, _⟩ := IntS.opened R9.out (j := 0) (by simp)
    rw [nth_cons_zero] at x1
    rw [Nat.add_zero] at x1
    have hlv := O2.out.lt
    have hln : 0 < (((comp N k : Nat) : Int) :: l).length := by simp
    obtain ⟨wq, rfl⟩ : ∃ wq : World, wq = W2 := ⟨_, rfl⟩
    go_wp2_with (at_builtin; refine append_int (s := .tmp 11) Try.underlying23 Try.info3 (by decide) wq rfl _ rfl O2.out (comp N k) _ rfl (by simp [Act.eval, go_sem]) (by omega) (by omega) ?_; intro v' w' ho' hg' hat')
    go_roundw
    case rel =>
      refine ⟨k + 1, _, by omega, by go_num, Lib.hid ho', Lib.hid ?_, by simp; omega, Lib.hid (HF2.out.grown hg' fun g hg => .inr (hlv g hg).1)⟩
      rw [List.take_succ_eq_append_getElem (by rw [compAll_length]; exact hlt), ← nth_eq, nth_compAll hlt, ← HD.out]
    case measure => simp [intOf]; omega

end Go.Proofs.Ytcmmklcampmkjaa
