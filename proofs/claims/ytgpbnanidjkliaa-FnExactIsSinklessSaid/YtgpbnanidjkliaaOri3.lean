/-
  Contracts: the numbers of edges that leave (reference), sinks (program and reference).
-/
import Derived.Test.YtgpbnanidjkliaaOri2
namespace Go.Proofs.Ytgpbnanidjkliaa
open Go.ChangeShapes Go.WideShapes Go.ChangeAt Go.RowKit
set_option linter.unusedVariables false

def sumI (zs : List Int) : Int := zs.foldl (· + ·) 0
theorem sumI_take {zs : List Int} {k : Nat} (h : k < zs.length) : sumI (zs.take (k + 1)) = sumI (zs.take k) + nth zs k := by
  unfold sumI; rw [List.take_succ_eq_append_getElem h, List.foldl_append, nth_eq h]; rfl
theorem sum_ones {zs : List Int} (h : ∀ k, k < zs.length → 0 ≤ nth zs k ∧ nth zs k ≤ 1) : ∀ k, k ≤ zs.length → sumI (zs.take k) = onesI (zs.take k)
  | 0, _ => rfl
  | k + 1, hk => by
    rw [sumI_take (by omega), sum_ones h k (by omega), onesI_take (by omega)]
    have := h k (by omega)
    by_cases e : nth zs k = 1
    · rw [if_pos e, e]; omega
    · rw [if_neg e]; omega
theorem outDeg_length (o : List (List Int)) : (outDeg o).length = o.length := by simp [outDeg]
theorem nth_outDeg {o : List (List Int)} {v : Nat} (hv : v < o.length) : nth (outDeg o) v = onesI (nthL o v) := by simp [nth, outDeg, nthL, hv]

set_option maxHeartbeats 4000000 in
set_option maxRecDepth 100000 in
theorem orOut_any (v1 : Value) (o : List (List Int)) (lo1 hi1 : Nat) (w : World) (h1 : IntSS w lo1 hi1 v1 o) (hh1 : hi1 ≤ w.heap.size) (hr : rowsIn o 0 1 = true) (ho : o.length ≤ 1048576) (hrl : ∀ v, v < o.length → (nthL o v).length ≤ 1048576) :
    Calls Try.prog 87 #[v1] w fun e w' => ∃ r, e = .returned (r) ∧ IntS w' w.heap.size w'.heap.size r (outDeg o) ∧ Below w.heap.size w w' := by
  have HR := Lib.hid hr; clear hr
  have HRL := Lib.hid hrl; clear hrl
  have F1 := Lib.hid h1
  obtain ⟨A1, c1, rfl, hc1, hd1⟩ := h1.dims
  clear h1
  go_enter Try.func87, Try.ntmps87
  go_wp2_with fail
  go_loopw [11, 3] (fun i ov wr => ∃ (k : Nat) (zs : List Int), k ≤ o.length ∧ i = .int .i64 k ∧ Hid (OwnI wr w.heap.size 3 ov zs) ∧ Hid (zs = (outDeg o).take k) ∧ zs.length ≤ k ∧ Hid (Turned w.heap.size w.heap.size w wr)) (fun i ov _ => o.length - (intOf i).toNat)
  case atStart => exact ⟨0, [], Nat.zero_le _, rfl, Lib.hid (OwnI.nil _ _ _), Lib.hid (by simp), Nat.zero_le _, Lib.hid (Turned.refl w.heap.size w.heap.size w)⟩
  case round =>
    obtain ⟨k, zs, hk, rfl, HO, HD, hl, HF1⟩ := hrel
    have hs1 := HF1.out.size
    by_cases hlt : k < o.length
    case neg =>
      obtain rfl : k = o.length := by omega
      go_wp2_with fail
      go_ret
      refine ⟨_, rfl, ?_, (HF1.out.below_of (Below.refl _ _) (by omega) (by omega))⟩
      have e : outDeg o = zs := by rw [HD.out, ← outDeg_length o, List.take_length]
      rw [e]
      exact HO.out.ints
    obtain ⟨bs, os, us, rfl, _, hbs, zs, hus⟩ := SS.opened F1.out hlt
    replace zs := (HF1.out.cell (by omega) (by omega)).trans zs
    obtain ⟨As, cs, rfl, hcs, hds⟩ := hus.dims
    have Us := Lib.hid hus; clear hus
    have hsl := HRL.out k hlt
    obtain ⟨wo, rfl⟩ : ∃ wo : World, wo = wr := ⟨_, rfl⟩
    go_wp2_with fail
    go_loop [17, 6] (fun i sv => ∃ (m : Nat) (s : Int), m ≤ (nthL o k).length ∧ i = .int .i64 m ∧ sv = .int .i64 s ∧ 0 ≤ s ∧ s ≤ m ∧ Hid (s = sumI ((nthL o k).take m))) (fun i sv => (nthL o k).length - (intOf i).toNat)
    case atStart => exact ⟨0, 0, Nat.zero_le _, rfl, rfl, Int.le_refl _, Int.le_refl _, Lib.hid rfl⟩
    case round =>
      obtain ⟨m, s, hm, rfl, rfl, hs0, hs1, HS⟩ := hrel
      by_cases hml : m < (nthL o k).length
      case neg =>
        obtain rfl : m = (nthL o k).length := by omega
        have hlv := HO.out.lt
        go_wp2_with (at_builtin; refine append_int (s := .tmp 25) Try.underlying23 Try.info3 (by decide) wo rfl _ rfl HO.out s _ rfl (by simp [Act.eval, go_sem]) (by omega) (by omega) ?_; intro v' w' ho' hg' hat')
        go_roundw
        case rel =>
          refine ⟨k + 1, _, by omega, by go_num, Lib.hid ho', Lib.hid ?_, by simp; omega, Lib.hid (HF1.out.grown hg' fun g hg => .inr (hlv g hg).1)⟩
          rw [List.take_succ_eq_append_getElem (by rw [outDeg_length]; exact hlt), ← nth_eq, nth_outDeg hlt, ← HD.out, HS.out, sum_ones (fun j hj => rows_val HR.out hlt hj) _ (Nat.le_refl _), List.take_length]
        case measure => simp [intOf]; omega
      obtain ⟨be, oe, rfl, _, hbe', xe, _⟩ := (IntS.turned Us.out HF1.out (by omega) (by omega)).opened hml
      obtain ⟨y1, y2⟩ := rows_val HR.out hlt hml
      obtain ⟨y, HY⟩ : ∃ y, Hid (nth (nthL o k) m = y) := ⟨_, Lib.hid rfl⟩
      rw [HY.out] at xe y1 y2
      go_wp2_with fail
      go_round
      case rel => exact ⟨m + 1, s + y, by omega, by go_num, rfl, by omega, by omega, Lib.hid (by rw [sumI_take hml, HS.out, HY.out])⟩
      case measure => simp [intOf]; omega

set_option maxHeartbeats 4000000 in
theorem sink1_any (u : Value) (zs : List Int) (lo hi : Nat) (d : Int) (g : Nat) (w : World) (h : IntS w lo hi u zs) (hbx : w.cell? ⟨g, 0, none⟩ = some (.int .i64 d)) (hz : zs.length ≤ 1048576) (hh : hi ≤ w.heap.size) :
    Calls Try.prog 89 #[u, .pointer (some ⟨g, 0, none⟩)] w fun e w' => e = .returned (.bool (decide (d ≤ zs.length) && decide (onesI zs = 0))) ∧ Below w.heap.size w w' := by
  have H := Lib.hid h
  obtain ⟨A, c, rfl, hc, hd⟩ := h.dims
  clear h
  by_cases d1 : d ≤ zs.length
  · have d1' : decide (d ≤ (zs.length : Int)) = true := decide_eq_true d1
    by_cases d2 : onesI zs = 0
    · have d2' : ((onesI zs : Int) == 0) = true := by simp [d2]
      have D2 := Lib.hid d2; clear d2
      go_enter Try.func89, Try.ntmps89
      go_wp2_with (go_at_call 90; refine (ones_any _ zs _ _ _ H.out hh hz).mono ?_; rintro e w' ⟨rfl, rfl⟩)
      go_ret
      exact ⟨ret_bool (by rw [d1', decide_eq_true D2.out]; rfl), Below.refl _ _⟩
    · have d2' : ((onesI zs : Int) == 0) = false := by simpa using d2
      have D2 := Lib.hid d2; clear d2
      go_enter Try.func89, Try.ntmps89
      go_wp2_with (go_at_call 90; refine (ones_any _ zs _ _ _ H.out hh hz).mono ?_; rintro e w' ⟨rfl, rfl⟩)
      go_ret
      exact ⟨ret_bool (by rw [d1', decide_eq_false D2.out]; rfl), Below.refl _ _⟩
  · have d1' : decide (d ≤ (zs.length : Int)) = false := decide_eq_false d1
    have d1'' : (zs.length : Int) < d := by omega
    clear d1
    go_enter Try.func89, Try.ntmps89
    go_wp2_with fail
    go_ret
    exact ⟨ret_bool (by rw [d1']; rfl), Below.refl _ _⟩

set_option maxHeartbeats 4000000 in
set_option maxRecDepth 100000 in
theorem IsSinkless_impl (v1 : Value) (N : NetD) (lo1 hi1 : Nat) (v2 : Value) (o : List (List Int)) (lo2 hi2 : Nat) (d : Int) (w : World) (h1 : Net w lo1 hi1 v1 N) (hh1 : hi1 ≤ w.heap.size) (h2 : IntSS w lo2 hi2 v2 o) (hh2 : hi2 ≤ w.heap.size) (hz1 : N.sz ≤ 1048576) (hz2 : szSS o ≤ 1048576) (ok1 : N.Ok) (ok2 : ∀ l ∈ o, ∀ z ∈ l, I64 z) (ok3 : I64 d) :
    Calls Try.prog 43 #[v1, v2, .int .i64 d] w fun e w' => e = .returned (.tuple #[.bool (sinkRes N o d), .bool (sinkOk N o d)]) ∧ Below w.heap.size w w' := by
  clear ok1 ok2
  have F1 := Lib.hid h1
  obtain ⟨A1, c1, A1', c1', A1'', c1'', rfl, hc1, hd1, _⟩ := h1.parts
  clear h1
  have F2 := Lib.hid h2
  obtain ⟨A2, c2, rfl, hc2, hd2⟩ := h2.dims
  clear h2
  obtain ⟨WA, HWA⟩ : ∃ W, Hid (W = ((w.alloc (.cells #[.slice A1 N.ends.length c1, .slice A1' N.ids.length c1', .slice A1'' N.inputs.length c1''] 31)).alloc (.cells #[.int .i64 d] 3))) := ⟨_, Lib.hid rfl⟩
  have hbA : Below w.heap.size w WA := by rw [HWA.out]; exact (((Below.refl _ _).alloc (Nat.le_refl _) _).alloc (by simp; try omega) _)
  have hsA : w.heap.size + 2 ≤ WA.heap.size := by rw [HWA.out]; simp; try omega
  have bx1 : BoxN WA (w.heap.size) #[.slice A1 N.ends.length c1, .slice A1' N.ids.length c1', .slice A1'' N.inputs.length c1''] 31 := by rw [HWA.out]; exact (BoxN.new' _ _ _ (by simp)).still (grown_alloc _ _)
  have bx3 : BoxN WA (w.heap.size + 1) #[.int .i64 d] 3 := by rw [HWA.out]; exact (BoxN.new' _ _ _ (by simp))
  have G1 := Lib.hid (Net.below F1.out hbA hh1); clear F1
  have G2 := Lib.hid (ISS.below F2.out hbA hh2); clear F2
  go_enter Try.func43, Try.ntmps43
  go_upto_region 1 with (fail)
  rw [← HWA.out]; clear HWA
  have kbx1_0 : WA.cell? ⟨w.heap.size, 0, none⟩ = some (.slice A1 N.ends.length c1) := bx1.cell 0 (by simp)
  have kbx1_1 : WA.cell? ⟨w.heap.size, 1, none⟩ = some (.slice A1' N.ids.length c1') := bx1.cell 1 (by simp)
  have kbx1_2 : WA.cell? ⟨w.heap.size, 2, none⟩ = some (.slice A1'' N.inputs.length c1'') := bx1.cell 2 (by simp)
  have kbx3_0 : WA.cell? ⟨w.heap.size + 1, 0, none⟩ = some (.int .i64 d) := bx3.cell 0 (by simp)
  go_wp2_with fail
  clear kbx1_0 kbx1_1 kbx1_2 kbx3_0
  refine (isOrientation_any _ N lo1 hi1 _ o lo2 hi2 _ G1.out (by omega) G2.out (by omega) hz1).mono ?_
  rintro e W1 ⟨rfl, hb1⟩
  have hg1 := grown_below hb1; clear hb1
  have hs1 := hg1.size
  have HF1 := Lib.hid ((Turned.refl WA.heap.size WA.heap.size WA).still hg1)
  by_cases hor : oriOk N o = true
  case neg =>
    have hor' : oriOk N o = false := by simpa using hor
    rw [hor']
    have HOR := Lib.hid hor'; clear hor hor'
    go_wp2_with fail
    go_ret2
    exact ⟨ret_bb (show false = sinkRes N o d by unfold sinkRes sinkOk; rw [HOR.out]; simp) (show false = sinkOk N o d by unfold sinkOk; rw [HOR.out]; simp), (HF1.out.below_of hbA (by omega) (by omega))⟩
  rw [hor]
  have HOR := Lib.hid hor; clear hor
  have kbx3_0 : W1.cell? ⟨w.heap.size + 1, 0, none⟩ = some (.int .i64 d) := (HF1.out.boxN bx3 (by omega)).cell 0 (by simp)
  by_cases hd : 1 ≤ d
  case neg =>
    have hd' : d < 1 := by omega
    have HD := Lib.hid (decide_eq_false hd); clear hd
    go_wp2_with fail
    go_ret2
    exact ⟨ret_bb (show false = sinkRes N o d by unfold sinkRes sinkOk; rw [HD.out]; simp) (show false = sinkOk N o d by unfold sinkOk; rw [HD.out]; simp), (HF1.out.below_of hbA (by omega) (by omega))⟩
  have hmf : ∀ (fn : Fn) (first cap : Array Value) (w : World), (Instr.makeFunc fn first cap).run Try.prog w = .ok (.func fn first cap) w := fun _ _ _ _ => rfl
  obtain ⟨_, hgd, hpb, hri, _⟩ := oriOk_parts HOR.out
  have HGD := Lib.hid hgd
  have HPB := Lib.hid hpb
  clear hgd hpb hri
  obtain ⟨n1, n40⟩ := good_n HGD.out
  have HD := Lib.hid (decide_eq_true hd)
  have b3x := HF1.out.boxN bx3 (by omega)
  have o2x := Lib.hid (ISS.turned G2.out HF1.out (by omega) (by omega))
  have HCF := Lib.hid (ContainsFunc_row 89 #[.pointer (some ⟨w.heap.size + 1, 0, none⟩)] (enters_of Try.func89 (by kernel_rfl) rfl) (sinkAt o d) _ o _ _ _ o2x.out (by omega) (fun k u hk W hW hu => by
    have hl := ports_len HPB.out
    have r1 := ports_row HPB.out (v := k) (by omega)
    have r2 := good_deg HGD.out (v := k) (by omega)
    have hws := hW.size
    exact sink1_any u (nthL o k) lo2 hi2 d (w.heap.size + 1) W hu ((b3x.below hW b3x.lt).cell 0 (by simp)) (by omega) (by omega)))
  clear b3x o2x
  go_wp2_with fail
  clear kbx3_0
  refine (HCF.out).mono ?_
  rintro e W2 ⟨rfl, hb2⟩
  have hg2 := grown_below hb2; clear hb2
  have hs2 := hg2.size
  have HF2 := Lib.hid (HF1.out.still hg2); clear HF1
  go_wp2_with fail
  go_ret2
  exact ⟨ret_bb (by unfold sinkRes sinkOk sinkless; rw [HOR.out, HD.out, ← not_any_not]; simp) (by unfold sinkOk; rw [HOR.out, HD.out]; rfl), (HF2.out.below_of hbA (by omega) (by omega))⟩

set_option maxHeartbeats 4000000 in
set_option maxRecDepth 100000 in
theorem IsSinkless_spec (v1 : Value) (N : NetD) (lo1 hi1 : Nat) (v2 : Value) (o : List (List Int)) (lo2 hi2 : Nat) (d : Int) (w : World) (h1 : Net w lo1 hi1 v1 N) (hh1 : hi1 ≤ w.heap.size) (h2 : IntSS w lo2 hi2 v2 o) (hh2 : hi2 ≤ w.heap.size) (hz1 : N.sz ≤ 1048576) (hz2 : szSS o ≤ 1048576) (ok1 : N.Ok) (ok2 : ∀ l ∈ o, ∀ z ∈ l, I64 z) (ok3 : I64 d) :
    Calls Try.prog 42 #[v1, v2, .int .i64 d] w fun e w' => e = .returned (.tuple #[.bool (sinkRes N o d), .bool (sinkOk N o d)]) ∧ Below w.heap.size w w' := by
  clear ok1 ok2
  have F1 := Lib.hid h1
  obtain ⟨A1, c1, A1', c1', A1'', c1'', rfl, hc1, hd1, _⟩ := h1.parts
  clear h1
  have F2 := Lib.hid h2
  obtain ⟨A2, c2, rfl, hc2, hd2⟩ := h2.dims
  clear h2
  obtain ⟨WA, HWA⟩ : ∃ W, Hid (W = (w.alloc (.cells #[.slice A1 N.ends.length c1, .slice A1' N.ids.length c1', .slice A1'' N.inputs.length c1''] 31))) := ⟨_, Lib.hid rfl⟩
  have hbA : Below w.heap.size w WA := by rw [HWA.out]; exact ((Below.refl _ _).alloc (Nat.le_refl _) _)
  have hsA : w.heap.size + 1 ≤ WA.heap.size := by rw [HWA.out]; simp; try omega
  have bx1 : BoxN WA (w.heap.size) #[.slice A1 N.ends.length c1, .slice A1' N.ids.length c1', .slice A1'' N.inputs.length c1''] 31 := by rw [HWA.out]; exact (BoxN.new' _ _ _ (by simp))
  have G1 := Lib.hid (Net.below F1.out hbA hh1); clear F1
  have G2 := Lib.hid (ISS.below F2.out hbA hh2); clear F2
  go_enter Try.func42, Try.ntmps42
  go_upto_region 1 with (fail)
  rw [← HWA.out]; clear HWA
  have kbx1_0 : WA.cell? ⟨w.heap.size, 0, none⟩ = some (.slice A1 N.ends.length c1) := bx1.cell 0 (by simp)
  have kbx1_1 : WA.cell? ⟨w.heap.size, 1, none⟩ = some (.slice A1' N.ids.length c1') := bx1.cell 1 (by simp)
  have kbx1_2 : WA.cell? ⟨w.heap.size, 2, none⟩ = some (.slice A1'' N.inputs.length c1'') := bx1.cell 2 (by simp)
  go_wp2_with fail
  clear kbx1_0 kbx1_1 kbx1_2
  refine (orAsked_any _ N lo1 hi1 _ o lo2 hi2 _ G1.out (by omega) G2.out (by omega) hz1).mono ?_
  rintro e W1 ⟨rfl, hb1⟩
  have hg1 := grown_below hb1; clear hb1
  have hs1 := hg1.size
  have HF1 := Lib.hid ((Turned.refl WA.heap.size WA.heap.size WA).still hg1)
  by_cases hor : oriOk N o = true
  case neg =>
    have hor' : oriOk N o = false := by simpa using hor
    rw [hor']
    have HOR := Lib.hid hor'; clear hor hor'
    go_wp2_with fail
    go_ret2
    exact ⟨ret_bb (show false = sinkRes N o d by unfold sinkRes sinkOk; rw [HOR.out]; simp) (show false = sinkOk N o d by unfold sinkOk; rw [HOR.out]; simp), (HF1.out.below_of hbA (by omega) (by omega))⟩
  rw [hor]
  have HOR := Lib.hid hor; clear hor
  by_cases hd : 1 ≤ d
  case neg =>
    have hd' : d < 1 := by omega
    have HD := Lib.hid (decide_eq_false hd); clear hd
    go_wp2_with fail
    go_ret2
    exact ⟨ret_bb (show false = sinkRes N o d by unfold sinkRes sinkOk; rw [HD.out]; simp) (show false = sinkOk N o d by unfold sinkOk; rw [HD.out]; simp), (HF1.out.below_of hbA (by omega) (by omega))⟩
  obtain ⟨_, hgd, hpb, hri, _⟩ := oriOk_parts HOR.out
  have HGD := Lib.hid hgd
  have HPB := Lib.hid hpb
  have HRI := Lib.hid hri
  clear hgd hpb hri
  obtain ⟨n1, n40⟩ := good_n HGD.out
  have hol : o.length ≤ N.ends.length := by have := ports_len HPB.out; omega
  have HD := Lib.hid (decide_eq_true hd)
  go_wp2_with fail
  refine (orOut_any _ o lo2 hi2 _ (ISS.turned G2.out HF1.out (by omega) (by omega)) (by omega) HRI.out (by omega) (fun v hv => by have := ports_row HPB.out (v := v) (by omega); have := good_deg HGD.out (v := v) (by omega); omega)).mono ?_
  rintro e W2 ⟨r, rfl, hr, hb2⟩
  have hg2 := grown_below hb2; clear hb2
  have hs2 := hg2.size
  have HF2 := Lib.hid (HF1.out.still hg2); clear HF1
  have R2 := Lib.hid hr; clear hr
  have N_2 := Lib.hid (Net.turned G1.out HF2.out (by omega) (by omega)); clear G1
  have o_2 := Lib.hid (ISS.turned G2.out HF2.out (by omega) (by omega)); clear G2
  have bx1_2 := HF2.out.boxN bx1 (by omega); clear bx1
  have hbA2 := (HF2.out.below_of hbA (by omega) (by omega)); clear hbA HF2
  obtain ⟨Ar, cr, rfl, hcr, hdr⟩ := R2.out.dims
  rw [outDeg_length] at hcr ⊢
  have kbx1_0 : W2.cell? ⟨w.heap.size, 0, none⟩ = some (.slice A1 N.ends.length c1) := bx1_2.cell 0 (by simp)
  have kbx1_1 : W2.cell? ⟨w.heap.size, 1, none⟩ = some (.slice A1' N.ids.length c1') := bx1_2.cell 1 (by simp)
  have kbx1_2 : W2.cell? ⟨w.heap.size, 2, none⟩ = some (.slice A1'' N.inputs.length c1'') := bx1_2.cell 2 (by simp)
  obtain ⟨b1, o1, _, _, rfl, _⟩ := Net.rowAt N_2.out (u := 0) (by omega)
  go_wp2_with fail
  go_loop [21] (fun i => ∃ (k : Nat), k ≤ o.length ∧ i = .int .i64 k ∧ Hid (∀ j, j < k → (!sinkAt o d j) = true)) (fun i => o.length - (intOf i).toNat)
  case atStart => exact ⟨0, Nat.zero_le _, rfl, Lib.hid fun j hj => absurd hj (by omega)⟩
  case round =>
    obtain ⟨k, hk, rfl, HU⟩ := hrel
    by_cases hlt : k < o.length
    case neg =>
      obtain rfl : k = o.length := by omega
      go_wp2_with fail
      go_ret2
      exact ⟨ret_bb (by unfold sinkRes sinkOk sinkless; rw [HOR.out, HD.out, rangeAll_true HU.out]; rfl) (by unfold sinkOk; rw [HOR.out, HD.out]; rfl), hbA2⟩
    obtain ⟨Ar, cr, hbr, qr, hcr, hdr, hRr⟩ := Net.rowIn N_2.out (Nat.lt_of_lt_of_le hlt hol)
    have Rr := Lib.hid hRr; clear hRr
    obtain ⟨b5, o5, rfl, _, _, x5, _⟩ := IntS.opened R2.out (j := k) (by rw [outDeg_length]; exact hlt)
    rw [nth_outDeg hlt] at x5
    have hki : (k : Int) < N.ends.length := by omega
    have hrw := ports_row HPB.out (v := k) (by omega)
    have hd6 := good_deg HGD.out (v := k) (by omega)
    have HS := Lib.hid (show sinkAt o d k = (decide (d ≤ ((nthL N.ends k).length : Int)) && decide (onesI (nthL o k) = 0)) by unfold sinkAt; rw [hrw])
    clear hrw
    by_cases d1 : d ≤ (nthL N.ends k).length
    case neg =>
      have d1' : ((nthL N.ends k).length : Int) < d := by omega
      have D1 := Lib.hid (decide_eq_false d1); clear d1
      go_wp2_with fail
      go_round
      case rel =>
        refine ⟨k + 1, by omega, by go_num, Lib.hid fun j hj => ?_⟩
        by_cases e : j = k
        · rw [e, HS.out, D1.out]; rfl
        · exact HU.out j (by omega)
      case measure => simp [intOf]; omega
    have D1 := Lib.hid (decide_eq_true d1)
    by_cases d2 : onesI (nthL o k) = 0
    case neg =>
      have d2' : ((onesI (nthL o k) : Int) == 0) = false := by simpa using d2
      have D2 := Lib.hid (decide_eq_false d2); clear d2
      go_wp2_with fail
      go_round
      case rel =>
        refine ⟨k + 1, by omega, by go_num, Lib.hid fun j hj => ?_⟩
        by_cases e : j = k
        · rw [e, HS.out, D2.out]; simp
        · exact HU.out j (by omega)
      case measure => simp [intOf]; omega
    have d2' : ((onesI (nthL o k) : Int) == 0) = true := by simp [d2]
    have D2 := Lib.hid (decide_eq_true d2); clear d2
    go_wp2_with fail
    go_ret2
    exact ⟨ret_bb (by unfold sinkRes sinkless; rw [rangeAll_false hlt (by rw [HS.out, D1.out, D2.out]; rfl), Bool.and_false]) (by unfold sinkOk; rw [HOR.out, HD.out]; rfl), hbA2⟩

end Go.Proofs.Ytgpbnanidjkliaa
