/-
  Contracts: orientations by the reference; sinks; the numbers of edges that leave.
-/
import Derived.Test.YtjapdfdjgjajkaaOri
namespace Go.Proofs.Ytjapdfdjgjajkaa
open Go.ChangeShapes Go.WideShapes Go.ChangeAt Go.RowKit
set_option linter.unusedVariables false

theorem nthL_map_ints {l : List Quad} {k : Nat} (h : k < l.length) : nthL (l.map Quad.ints) k = (nthQ l k).ints := by simp [nthL, nthQ, h]
/-- one edge as a row of four numbers -/
theorem edge_row {w : World} {lo hi n c : Nat} {A : Option Addr} {qs : List Quad} (h : IntSS w lo hi (.slice A n c) (qs.map Quad.ints)) {k : Nat} (hk : k < qs.length) {x y z u : Nat} (eq : nthQ qs k = ⟨x, y, z, u⟩) :
    ∃ b off b2 o2 c2, A = some ⟨b, off, none⟩ ∧ b < hi ∧ b2 < hi ∧ 4 ≤ c2 ∧ c2 ≤ 9223372036854775807 ∧ w.cell? ⟨b, off + k, none⟩ = some (.slice (some ⟨b2, o2, none⟩) 4 c2) ∧
      w.cell? ⟨b2, o2, none⟩ = some (.int .i64 x) ∧ w.cell? ⟨b2, o2 + 1, none⟩ = some (.int .i64 y) ∧ w.cell? ⟨b2, o2 + 2, none⟩ = some (.int .i64 z) ∧ w.cell? ⟨b2, o2 + 3, none⟩ = some (.int .i64 u) := by
  obtain ⟨b, off, v, e, h1, h2, h3, h4⟩ := SS.opened h (j := k) (by simpa using hk)
  rw [nthL_map_ints hk, eq] at h4
  obtain ⟨A2, c2, rfl, h5, h6⟩ := h4.dims
  obtain ⟨b2, o2, rfl, h7, h8, x0, _⟩ := h4.opened (j := 0) (by simp [Quad.ints])
  have x1 := (h4.at_ (j := 1) (by simp [Quad.ints])).1
  have x2 := (h4.at_ (j := 2) (by simp [Quad.ints])).1
  have x3 := (h4.at_ (j := 3) (by simp [Quad.ints])).1
  exact ⟨b, off, b2, o2, c2, e, h2, h8, h5, h6, h3, x0, x1, x2, x3⟩
def onesI (zs : List Int) : Nat := (zs.filter fun x => x == 1).length
theorem onesI_le (zs : List Int) : onesI zs ≤ zs.length := List.length_filter_le _ _
theorem onesI_snoc (zs : List Int) (x : Int) : onesI (zs ++ [x]) = onesI zs + if x = 1 then 1 else 0 := by
  unfold onesI
  rw [List.filter_append, List.length_append]
  by_cases h : x = 1 <;> simp [h]
theorem onesI_take {zs : List Int} {k : Nat} (h : k < zs.length) : onesI (zs.take (k + 1)) = onesI (zs.take k) + if nth zs k = 1 then 1 else 0 := by
  rw [List.take_succ_eq_append_getElem h, onesI_snoc, nth_eq h]
def outDeg (o : List (List Int)) : List Int := o.map fun r => (onesI r : Int)
def sinkAt (o : List (List Int)) (d : Int) (v : Nat) : Bool := decide (d ≤ (nthL o v).length) && decide (onesI (nthL o v) = 0)
def sinkless (o : List (List Int)) (d : Int) : Bool := (List.range o.length).all fun v => !sinkAt o d v
def sinkOk (N : NetD) (o : List (List Int)) (d : Int) : Bool := oriOk N o && decide (1 ≤ d)
def sinkRes (N : NetD) (o : List (List Int)) (d : Int) : Bool := sinkOk N o d && sinkless o d
theorem oriOk_parts {N : NetD} {o : List (List Int)} (h : oriOk N o = true) : N.stubless = true ∧ N.good = true ∧ portsB N o = true ∧ rowsIn o 0 1 = true ∧ oriE N o = true := by
  unfold oriOk oriB at h
  simp only [Bool.and_eq_true] at h
  exact ⟨h.1, stubless_good h.1, h.2.1.1, h.2.1.2, h.2.2⟩

set_option maxHeartbeats 4000000 in
set_option maxRecDepth 100000 in
theorem orIs_any (v1 : Value) (N : NetD) (lo1 hi1 : Nat) (v2 : Value) (o : List (List Int)) (lo2 hi2 : Nat) (w : World) (h1 : Net w lo1 hi1 v1 N) (hh1 : hi1 ≤ w.heap.size) (h2 : IntSS w lo2 hi2 v2 o) (hh2 : hi2 ≤ w.heap.size) (hg : N.good = true) :
    Calls Try.prog 72 #[v1, v2] w fun e w' => e = .returned (.bool (oriB N o)) ∧ Below w.heap.size w w' := by
  obtain ⟨n1, n40⟩ := good_n hg
  have HG := Lib.hid hg; clear hg
  have F1 := Lib.hid h1
  obtain ⟨A1, c1, A1', c1', A1'', c1'', rfl, hc1, hd1, _⟩ := h1.parts
  obtain ⟨b1, o1, _, _, rfl, _⟩ := Net.rowAt F1.out (u := 0) (by omega)
  clear h1
  have F2 := Lib.hid h2
  obtain ⟨A2, c2, rfl, hc2, hd2⟩ := h2.dims
  clear h2
  obtain ⟨WA, HWA⟩ : ∃ W, Hid (W = (w.alloc (.cells #[.slice (some ⟨b1, o1, none⟩) N.ends.length c1, .slice A1' N.ids.length c1', .slice A1'' N.inputs.length c1''] 32))) := ⟨_, Lib.hid rfl⟩
  have hbA : Below w.heap.size w WA := by rw [HWA.out]; exact ((Below.refl _ _).alloc (Nat.le_refl _) _)
  have hsA : w.heap.size + 1 ≤ WA.heap.size := by rw [HWA.out]; simp; try omega
  have bx1 : BoxN WA (w.heap.size) #[.slice (some ⟨b1, o1, none⟩) N.ends.length c1, .slice A1' N.ids.length c1', .slice A1'' N.inputs.length c1''] 32 := by rw [HWA.out]; exact (BoxN.new' _ _ _ (by simp))
  have G1 := Lib.hid (Net.below F1.out hbA hh1); clear F1
  have G2 := Lib.hid (ISS.below F2.out hbA hh2); clear F2
  go_enter Try.func72, Try.ntmps72
  go_upto_region 1 with (fail)
  rw [← HWA.out]; clear HWA
  have kbx1_0 : WA.cell? ⟨w.heap.size, 0, none⟩ = some (.slice (some ⟨b1, o1, none⟩) N.ends.length c1) := bx1.cell 0 (by simp)
  have kbx1_1 : WA.cell? ⟨w.heap.size, 1, none⟩ = some (.slice A1' N.ids.length c1') := bx1.cell 1 (by simp)
  have kbx1_2 : WA.cell? ⟨w.heap.size, 2, none⟩ = some (.slice A1'' N.inputs.length c1'') := bx1.cell 2 (by simp)
  go_wp2_with fail
  clear kbx1_0 kbx1_1 kbx1_2
  refine (orPorts_any _ N lo1 hi1 _ o lo2 hi2 0 1 _ G1.out (by omega) G2.out (by omega) HG.out).mono ?_
  rintro e W1 ⟨rfl, hb1⟩
  have hg1 := grown_below hb1; clear hb1
  have hs1 := hg1.size
  have HF1 := Lib.hid ((Turned.refl WA.heap.size WA.heap.size WA).still hg1)
  by_cases hp : portsIn N o 0 1 = true
  case neg =>
    have hp' : portsIn N o 0 1 = false := by simpa using hp
    rw [hp']
    have HP := Lib.hid hp'; clear hp hp'
    go_wp2_with fail
    go_ret
    exact ⟨ret_bool (by unfold oriB; rw [← portsIn_eq, HP.out]; rfl), (HF1.out.below_of hbA (by omega) (by omega))⟩
  rw [hp]
  have HP := Lib.hid hp; clear hp
  have HPI := Lib.hid (show (portsB N o && rowsIn o 0 1) = true by rw [← portsIn_eq]; exact HP.out)
  obtain ⟨hpb, hri⟩ := (Bool.and_eq_true _ _).mp HPI.out |> fun h => h
  have HPB := Lib.hid hpb
  have HRI := Lib.hid hri
  clear hpb hri
  have kbx1_0 : W1.cell? ⟨w.heap.size, 0, none⟩ = some (.slice (some ⟨b1, o1, none⟩) N.ends.length c1) := (HF1.out.boxN bx1 (by omega)).cell 0 (by simp)
  have kbx1_1 : W1.cell? ⟨w.heap.size, 1, none⟩ = some (.slice A1' N.ids.length c1') := (HF1.out.boxN bx1 (by omega)).cell 1 (by simp)
  have kbx1_2 : W1.cell? ⟨w.heap.size, 2, none⟩ = some (.slice A1'' N.inputs.length c1'') := (HF1.out.boxN bx1 (by omega)).cell 2 (by simp)
  go_wp2_with fail
  clear kbx1_0 kbx1_1 kbx1_2
  refine (neEdges_any _ N lo1 hi1 _ (Net.turned G1.out HF1.out (by omega) (by omega)) (by omega) HG.out).mono ?_
  rintro e W2 ⟨r, rfl, hr, hb2⟩
  have hg2 := grown_below hb2; clear hb2
  have hs2 := hg2.size
  have HF2 := Lib.hid (HF1.out.still hg2); clear HF1
  replace hr := hr.ss
  have R2 := Lib.hid hr; clear hr
  have N_2 := Lib.hid (Net.turned G1.out HF2.out (by omega) (by omega)); clear G1
  have o_2 := Lib.hid (ISS.turned G2.out HF2.out (by omega) (by omega)); clear G2
  have bx1_2 := HF2.out.boxN bx1 (by omega); clear bx1
  have hbA2 := (HF2.out.below_of hbA (by omega) (by omega)); clear hbA HF2
  obtain ⟨Ar, cr, rfl, hcr, hdr⟩ := R2.out.dims
  rw [List.length_map] at hcr ⊢
  have hel := edgesE_len HG.out N.ends.length (Nat.le_refl _)
  have hel2 : (edges N).length ≤ 6 * N.ends.length := hel
  clear hel
  go_wp2_with fail
  go_loopw [14] (fun i wr => ∃ (k : Nat), k ≤ (edges N).length ∧ i = .int .i64 k ∧ Hid (∀ j, j < k → edgeOne o (nthQ (edges N) j) = true) ∧ Hid (Turned W2.heap.size W2.heap.size W2 wr)) (fun i _ => (edges N).length - (intOf i).toNat)
  case atStart => exact ⟨0, Nat.zero_le _, rfl, Lib.hid fun j hj => absurd hj (by omega), Lib.hid (Turned.refl W2.heap.size W2.heap.size W2)⟩
  case round =>
    obtain ⟨k, hk, rfl, HU, HF3⟩ := hrel
    have hs3 := HF3.out.size
    by_cases hlt : k < (edges N).length
    case neg =>
      obtain rfl : k = (edges N).length := by omega
      go_wp2_with fail
      go_ret
      exact ⟨ret_bool (by unfold oriB oriE; rw [HPI.out, ← all_range_nthQ, rangeAll_true HU.out]; rfl), (HF3.out.below_of hbA2 (by omega) (by omega))⟩
    obtain ⟨x, y, z, u, eq, q1, q2, q3, q4, _⟩ := edge_nat HG.out (nthQ_mem hlt)
    have hl := ports_len HPB.out
    have r1 := ports_row HPB.out q1
    have r2 := ports_row HPB.out q3
    obtain ⟨s1, s2⟩ := rows_val HRI.out (v := x) (i := y) (by omega) (by omega)
    obtain ⟨s3, s4⟩ := rows_val HRI.out (v := z) (i := u) (by omega) (by omega)
    obtain ⟨b, off, b2, o2, c2, rfl, hb, hb2, hc2, hd2, zz, x0, x1, x2, x3⟩ := edge_row (ISS.turned R2.out HF3.out (by omega) (by omega)) hlt eq
    have EQ := Lib.hid eq; clear eq
    have oo := (ISS.turned o_2.out HF3.out (by omega) (by omega))
    obtain ⟨bo, off2, u1, rfl, _, hbo, z1, hu1⟩ := SS.opened oo (j := x) (by omega)
    obtain ⟨u2, _, z2, hu2⟩ := SS.openedIn oo (j := z) (by omega)
    obtain ⟨A1, c1, rfl, _, _⟩ := hu1.dims
    obtain ⟨A2, c2, rfl, _, _⟩ := hu2.dims
    obtain ⟨b5, o5, rfl, _, _, y1, _⟩ := hu1.opened (j := y) (by omega)
    obtain ⟨b6, o6, rfl, _, _, y2, _⟩ := hu2.opened (j := u) (by omega)
    have i1 : (x : Int) < o.length := by omega
    have i2 : (z : Int) < o.length := by omega
    have i3 : (y : Int) < (nthL o x).length := by omega
    have i4 : (u : Int) < (nthL o z).length := by omega
    obtain ⟨p1, H1⟩ : ∃ s, Hid (nth (nthL o x) y = s) := ⟨_, Lib.hid rfl⟩
    obtain ⟨p2, H2⟩ : ∃ s, Hid (nth (nthL o z) u = s) := ⟨_, Lib.hid rfl⟩
    rw [H1.out] at y1 s1 s2
    rw [H2.out] at y2 s3 s4
    have hsum : IntKind.i64.wrap (p1 + p2) = p1 + p2 := IntWalk.i64_in _ (by omega)
    clear oo hu1 hu2 hl r1 r2
    by_cases he : p1 + p2 = 1
    · have he' : ((p1 + p2 : Int) != 1) = false := by simp [he]
      have HE := Lib.hid he; clear he
      go_wp2_with fail
      go_quiet (fail)
      go_wp2_with fail
      go_roundw
      case rel =>
        refine ⟨k + 1, by omega, by go_num, Lib.hid fun j hj => ?_, Lib.hid (HF3.out.still (grown_drewN _ _))⟩
        by_cases e : j = k
        · rw [e, EQ.out, edgeOne_nat, H1.out, H2.out, decide_eq_true HE.out]
        · exact HU.out j (by omega)
      case measure => simp [intOf]; omega
    · have he' : ((p1 + p2 : Int) != 1) = true := by simpa using he
      have HE := Lib.hid he; clear he
      go_wp2_with fail
      go_quiet (fail)
      go_wp2_with fail
      go_ret
      refine ⟨ret_bool ?_, below_drewN (HF3.out.below_of hbA2 (by omega) (by omega)) _⟩
      unfold oriB oriE
      rw [← all_range_nthQ, rangeAll_false hlt (by rw [EQ.out, edgeOne_nat, H1.out, H2.out, decide_eq_false HE.out]), Bool.and_false]

set_option maxHeartbeats 4000000 in
set_option maxRecDepth 100000 in
theorem orAsked_any (v1 : Value) (N : NetD) (lo1 hi1 : Nat) (v2 : Value) (o : List (List Int)) (lo2 hi2 : Nat) (w : World) (h1 : Net w lo1 hi1 v1 N) (hh1 : hi1 ≤ w.heap.size) (h2 : IntSS w lo2 hi2 v2 o) (hh2 : hi2 ≤ w.heap.size) (hsz : N.sz ≤ 1048576) :
    Calls Try.prog 57 #[v1, v2] w fun e w' => e = .returned (.bool (oriOk N o)) ∧ Below w.heap.size w w' := by
  have F1 := Lib.hid h1
  obtain ⟨A1, c1, A1', c1', A1'', c1'', rfl, hc1, hd1, _⟩ := h1.parts
  clear h1
  have F2 := Lib.hid h2
  obtain ⟨A2, c2, rfl, hc2, hd2⟩ := h2.dims
  clear h2
  obtain ⟨WA, HWA⟩ : ∃ W, Hid (W = (w.alloc (.cells #[.slice A1 N.ends.length c1, .slice A1' N.ids.length c1', .slice A1'' N.inputs.length c1''] 32))) := ⟨_, Lib.hid rfl⟩
  have hbA : Below w.heap.size w WA := by rw [HWA.out]; exact ((Below.refl _ _).alloc (Nat.le_refl _) _)
  have hsA : w.heap.size + 1 ≤ WA.heap.size := by rw [HWA.out]; simp; try omega
  have bx1 : BoxN WA (w.heap.size) #[.slice A1 N.ends.length c1, .slice A1' N.ids.length c1', .slice A1'' N.inputs.length c1''] 32 := by rw [HWA.out]; exact (BoxN.new' _ _ _ (by simp))
  have G1 := Lib.hid (Net.below F1.out hbA hh1); clear F1
  have G2 := Lib.hid (ISS.below F2.out hbA hh2); clear F2
  go_enter Try.func57, Try.ntmps57
  go_upto_region 1 with (fail)
  rw [← HWA.out]; clear HWA
  have kbx1_0 : WA.cell? ⟨w.heap.size, 0, none⟩ = some (.slice A1 N.ends.length c1) := bx1.cell 0 (by simp)
  have kbx1_1 : WA.cell? ⟨w.heap.size, 1, none⟩ = some (.slice A1' N.ids.length c1') := bx1.cell 1 (by simp)
  have kbx1_2 : WA.cell? ⟨w.heap.size, 2, none⟩ = some (.slice A1'' N.inputs.length c1'') := bx1.cell 2 (by simp)
  go_wp2_with fail
  clear kbx1_0 kbx1_1 kbx1_2
  refine (orGood_any _ N lo1 hi1 _ G1.out (by omega) hsz).mono ?_
  rintro e W1 ⟨rfl, hb1⟩
  have hg1 := grown_below hb1; clear hb1
  have hs1 := hg1.size
  have HF1 := Lib.hid ((Turned.refl WA.heap.size WA.heap.size WA).still hg1)
  by_cases hst : N.stubless = true
  case neg =>
    have hst' : N.stubless = false := by simpa using hst
    rw [hst']
    have HST := Lib.hid hst'; clear hst hst'
    go_wp2_with fail
    go_ret
    exact ⟨ret_bool (by unfold oriOk; rw [HST.out]; rfl), (HF1.out.below_of hbA (by omega) (by omega))⟩
  rw [hst]
  have HST := Lib.hid hst; clear hst
  have HG := Lib.hid (stubless_good HST.out)
  have kbx1_0 : W1.cell? ⟨w.heap.size, 0, none⟩ = some (.slice A1 N.ends.length c1) := (HF1.out.boxN bx1 (by omega)).cell 0 (by simp)
  have kbx1_1 : W1.cell? ⟨w.heap.size, 1, none⟩ = some (.slice A1' N.ids.length c1') := (HF1.out.boxN bx1 (by omega)).cell 1 (by simp)
  have kbx1_2 : W1.cell? ⟨w.heap.size, 2, none⟩ = some (.slice A1'' N.inputs.length c1'') := (HF1.out.boxN bx1 (by omega)).cell 2 (by simp)
  go_wp2_with fail
  clear kbx1_0 kbx1_1 kbx1_2
  refine (orIs_any _ N lo1 hi1 _ o lo2 hi2 _ (Net.turned G1.out HF1.out (by omega) (by omega)) (by omega) (ISS.turned G2.out HF1.out (by omega) (by omega)) (by omega) HG.out).mono ?_
  rintro e W2 ⟨rfl, hb2⟩
  have hg2 := grown_below hb2; clear hb2
  have hs2 := hg2.size
  have HF2 := Lib.hid (HF1.out.still hg2); clear HF1
  go_wp2_with fail
  go_ret
  exact ⟨ret_bool (by unfold oriOk; rw [HST.out]; rfl), (HF2.out.below_of hbA (by omega) (by omega))⟩

end Go.Proofs.Ytjapdfdjgjajkaa
