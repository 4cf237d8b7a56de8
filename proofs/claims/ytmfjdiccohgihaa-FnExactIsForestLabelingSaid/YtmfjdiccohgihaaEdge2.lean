/-
  Contracts: stubs; that a network has no stubs (program and reference); the reference's edges.
-/
import Derived.Test.YtmfjdiccohgihaaEdge
import Derived.Test.YtmfjdiccohgihaaFind
import Derived.Test.YtmfjdiccohgihaaIsNet
namespace Go.Proofs.Ytmfjdiccohgihaa
open Go.ChangeShapes Go.WideShapes Go.ChangeAt Go.RowKit
set_option linter.unusedVariables false

theorem eql_end (a b c d : Int) (w : World) : (binOp .eql 72 (.agg #[.int .i64 a, .int .i64 b]) (.agg #[.int .i64 c, .int .i64 d])).run Try.prog w = .ok (.bool (a == c && b == d)) w := by
  rw [run_eql_struct, run_equalIn_agg _ _ _ _ _ (by kernel_rfl) (by kernel_rfl)]
  simp only [Program.fieldsOf, Try.underlying72]
  by_cases h1 : a = c <;> by_cases h2 : b = d <;> simp [go_sem, h1, h2, Try.underlying3]
theorem stub_any (a b c d : Int) (w : World) : Calls Try.prog 69 #[.agg #[.int .i64 a, .int .i64 b, .int .i64 c, .int .i64 d]] w fun e w' => e = .returned (.bool (stubB ⟨a, b, c, d⟩)) ∧ Below w.heap.size w w' := by
  by_cases d1 : a = c
  · have d1' : (a == c) = true := by simp [d1]
    have D1 := Lib.hid d1; clear d1
    by_cases d2 : b = d
    · have d2' : (b == d) = true := by simp [d2]
      have D2 := Lib.hid d2; clear d2
      go_enter Try.func69, Try.ntmps69
      go_wp2
      go_ret
      exact ⟨ret_bool (by unfold stubB; simp [D1.out, D2.out]), below_a1 _ _⟩
    · have d2' : (b == d) = false := by simpa using d2
      have D2 := Lib.hid d2; clear d2
      go_enter Try.func69, Try.ntmps69
      go_wp2
      go_ret
      exact ⟨ret_bool (by unfold stubB; simp [D2.out]), below_a1 _ _⟩
  · have d1' : (a == c) = false := by simpa using d1
    have D1 := Lib.hid d1; clear d1
    go_enter Try.func69, Try.ntmps69
    go_wp2
    go_ret
    exact ⟨ret_bool (by unfold stubB; simp [D1.out]), below_a1 _ _⟩
theorem any_range_nthQ (l : List Quad) (p : Quad → Bool) : ((List.range l.length).any fun k => p (nthQ l k)) = l.any p := by
  rw [Bool.eq_iff_iff, List.any_eq_true, List.any_eq_true]
  constructor
  · rintro ⟨k, hk, hp⟩; exact ⟨_, nthQ_mem (List.mem_range.1 hk), hp⟩
  · rintro ⟨q, hq, hp⟩
    obtain ⟨k, hk, e⟩ := List.mem_iff_getElem.1 hq
    exact ⟨k, List.mem_range.2 hk, by rw [nthQ_eq hk, e]; exact hp⟩

set_option maxHeartbeats 4000000 in
set_option maxRecDepth 100000 in
theorem stubless_any (v1 : Value) (N : NetD) (lo1 hi1 : Nat) (w : World) (h1 : Net w lo1 hi1 v1 N) (hh1 : hi1 ≤ w.heap.size) (hsz : N.sz ≤ 1048576) :
    Calls Try.prog 34 #[v1] w fun e w' => e = .returned (.bool N.stubless) ∧ Below w.heap.size w w' := by
  have F1 := Lib.hid h1
  obtain ⟨A1, c1, A1', c1', A1'', c1'', rfl, hc1, hd1, _⟩ := h1.parts
  clear h1
  obtain ⟨WA, HWA⟩ : ∃ W, Hid (W = (w.alloc (.cells #[.slice A1 N.ends.length c1, .slice A1' N.ids.length c1', .slice A1'' N.inputs.length c1''] 33))) := ⟨_, Lib.hid rfl⟩
  have hbA : Below w.heap.size w WA := by rw [HWA.out]; exact ((Below.refl _ _).alloc (Nat.le_refl _) _)
  have hsA : w.heap.size + 1 ≤ WA.heap.size := by rw [HWA.out]; simp; try omega
  have bx1 : BoxN WA (w.heap.size) #[.slice A1 N.ends.length c1, .slice A1' N.ids.length c1', .slice A1'' N.inputs.length c1''] 33 := by rw [HWA.out]; exact (BoxN.new' _ _ _ (by simp))
  have G1 := Lib.hid (Net.below F1.out hbA hh1); clear F1
  go_enter Try.func34, Try.ntmps34
  go_upto_region 1 with (fail)
  rw [← HWA.out]; clear HWA
  have kbx1_0 : WA.cell? ⟨w.heap.size, 0, none⟩ = some (.slice A1 N.ends.length c1) := bx1.cell 0 (by simp)
  have kbx1_1 : WA.cell? ⟨w.heap.size, 1, none⟩ = some (.slice A1' N.ids.length c1') := bx1.cell 1 (by simp)
  have kbx1_2 : WA.cell? ⟨w.heap.size, 2, none⟩ = some (.slice A1'' N.inputs.length c1'') := bx1.cell 2 (by simp)
  go_wp2_with fail
  clear kbx1_0 kbx1_1 kbx1_2
  refine (IsNetwork_any _ N lo1 hi1 _ G1.out (by omega) hsz).mono ?_
  rintro e W1 ⟨rfl, hb1⟩
  have hg1 := grown_below hb1; clear hb1
  have hs1 := hg1.size
  have HF1 := Lib.hid ((Turned.refl WA.heap.size WA.heap.size WA).still hg1)
  by_cases hg : N.good = true
  case neg =>
    have hg' : N.good = false := by simpa using hg
    rw [hg']
    go_wp2_with fail
    go_ret
    exact ⟨ret_bool (by unfold NetD.stubless; rw [hg']; rfl), (HF1.out.below_of hbA (by omega) (by omega))⟩
  rw [hg]
  have HG := Lib.hid hg; clear hg
  have kbx1_0 : W1.cell? ⟨w.heap.size, 0, none⟩ = some (.slice A1 N.ends.length c1) := (HF1.out.boxN bx1 (by omega)).cell 0 (by simp)
  have kbx1_1 : W1.cell? ⟨w.heap.size, 1, none⟩ = some (.slice A1' N.ids.length c1') := (HF1.out.boxN bx1 (by omega)).cell 1 (by simp)
  have kbx1_2 : W1.cell? ⟨w.heap.size, 2, none⟩ = some (.slice A1'' N.inputs.length c1'') := (HF1.out.boxN bx1 (by omega)).cell 2 (by simp)
  go_wp2_with fail
  clear kbx1_0 kbx1_1 kbx1_2
  refine (edges_any _ N lo1 hi1 _ (Net.turned G1.out HF1.out (by omega) (by omega)) (by omega) HG.out).mono ?_
  rintro e W2 ⟨r, rfl, hr, hb2⟩
  have hg2 := grown_below hb2; clear hb2
  have hs2 := hg2.size
  have HF2 := Lib.hid (HF1.out.still hg2); clear HF1
  have R2 := Lib.hid hr; clear hr
  obtain ⟨Ar, cr, rfl, hcr, hdr⟩ := R2.out.dims
  go_wp2_with fail
  refine (ContainsFunc_edge 69 #[] (enters_of Try.func69 (by kernel_rfl) rfl) (fun k => stubB (nthQ (edges N) k)) _ (edges N) _ _ _ R2.out (Nat.le_refl _) (fun k hk W hW => stub_any _ _ _ _ W)).mono ?_
  rintro e W3 ⟨rfl, hb3⟩
  have hg3 := grown_below hb3; clear hb3
  have hs3 := hg3.size
  have HF3 := Lib.hid (HF2.out.still hg3); clear HF2
  have R3 := Lib.hid (QuadS.still R2.out hg3 (by omega)); clear R2
  go_wp2_with fail
  go_ret
  exact ⟨ret_bool (by unfold NetD.stubless; rw [HG.out, any_range_nthQ]; rfl), (HF3.out.below_of hbA (by omega) (by omega))⟩

set_option maxHeartbeats 4000000 in
set_option maxRecDepth 100000 in
theorem neFirst_any (v1 : Value) (N : NetD) (lo1 hi1 : Nat) (v : Nat) (i : Nat) (w : World) (h1 : Net w lo1 hi1 v1 N) (hh1 : hi1 ≤ w.heap.size) (hg : N.good = true) (hv : v < N.ends.length) (hi : i < (nthL N.ends v).length) :
    Calls Try.prog 64 #[v1, .int .i64 (v : Nat), .int .i64 (i : Nat)] w fun e w' => e = .returned (.bool (firstB N v i)) ∧ Below w.heap.size w w' := by
  obtain ⟨n1, n40⟩ := good_n hg
  have HG := Lib.hid hg; clear hg
  have hd6 := good_deg HG.out hv
  have hvi : (v : Int) < N.ends.length := by omega
  have hii : (i : Int) < (nthL N.ends v).length := by omega
  have F1 := Lib.hid h1
  obtain ⟨A1, c1, A1', c1', A1'', c1'', rfl, hc1, hd1, _⟩ := h1.parts
  obtain ⟨b1, o1, _, _, rfl, _⟩ := Net.rowAt F1.out (u := 0) (by omega)
  clear h1
  obtain ⟨WA, HWA⟩ : ∃ W, Hid (W = (w.alloc (.cells #[.slice (some ⟨b1, o1, none⟩) N.ends.length c1, .slice A1' N.ids.length c1', .slice A1'' N.inputs.length c1''] 33))) := ⟨_, Lib.hid rfl⟩
  have hbA : Below w.heap.size w WA := by rw [HWA.out]; exact ((Below.refl _ _).alloc (Nat.le_refl _) _)
  have hsA : w.heap.size + 1 ≤ WA.heap.size := by rw [HWA.out]; simp; try omega
  have bx1 : BoxN WA (w.heap.size) #[.slice (some ⟨b1, o1, none⟩) N.ends.length c1, .slice A1' N.ids.length c1', .slice A1'' N.inputs.length c1''] 33 := by rw [HWA.out]; exact (BoxN.new' _ _ _ (by simp))
  have G1 := Lib.hid (Net.below F1.out hbA hh1); clear F1
  go_enter Try.func64, Try.ntmps64
  go_upto_region 1 with (fail)
  rw [← HWA.out]; clear HWA
  have kbx1_0 : WA.cell? ⟨w.heap.size, 0, none⟩ = some (.slice (some ⟨b1, o1, none⟩) N.ends.length c1) := bx1.cell 0 (by simp)
  have kbx1_1 : WA.cell? ⟨w.heap.size, 1, none⟩ = some (.slice A1' N.ids.length c1') := bx1.cell 1 (by simp)
  have kbx1_2 : WA.cell? ⟨w.heap.size, 2, none⟩ = some (.slice A1'' N.inputs.length c1'') := bx1.cell 2 (by simp)
  obtain ⟨Ar, cr, hbr, qr, hcr, hdr, hRr⟩ := Net.rowIn G1.out hv
  have Rr := Lib.hid hRr; clear hRr
  obtain ⟨br, or, rfl, _, hbr', er, er'⟩ := Rr.out.opened hi
  obtain ⟨t, r, etr, ht, hr, eur⟩ := good_end HG.out hv hi
  rw [etr] at er er'
  dsimp only at er er'
  have ETr := Lib.hid etr
  have EUr := Lib.hid eur
  clear etr eur
  by_cases d1 : v < t
  case pos =>
    go_wp2_with fail
    go_ret
    exact ⟨ret_bool (by unfold firstB; rw [ETr.out]; simp; omega), hbA.alloc (by omega) _⟩
  by_cases d2 : v = t
  case neg =>
    have d2' : ((v : Int) == (t : Int)) = false := by simp; omega
    go_wp2_with fail
    go_ret
    exact ⟨ret_bool (by unfold firstB; rw [ETr.out]; simp; omega), hbA.alloc (by omega) _⟩
  have d2' : ((v : Int) == (t : Int)) = true := by simp; omega
  have D2 := Lib.hid d2; clear d2
  have d4 : t ≤ v := by omega
  by_cases d3 : i ≤ r
  case pos =>
    go_wp2_with fail
    go_ret
    exact ⟨ret_bool (by unfold firstB; rw [ETr.out]; simp; have := D2.out; omega), hbA.alloc (by omega) _⟩
  go_wp2_with fail
  go_ret
  exact ⟨ret_bool (by unfold firstB; rw [ETr.out]; simp; have := D2.out; omega), hbA.alloc (by omega) _⟩

set_option maxHeartbeats 4000000 in
set_option maxRecDepth 100000 in
theorem neEdges_any (v1 : Value) (N : NetD) (lo1 hi1 : Nat) (w : World) (h1 : Net w lo1 hi1 v1 N) (hh1 : hi1 ≤ w.heap.size) (hg : N.good = true) :
    Calls Try.prog 32 #[v1] w fun e w' => ∃ r, e = .returned (r) ∧ IntSSx w' w.heap.size w'.heap.size r ((edges N).map Quad.ints) ∧ Below w.heap.size w w' := by
  obtain ⟨n1, n40⟩ := good_n hg
  have HG := Lib.hid hg; clear hg
  have F1 := Lib.hid h1
  obtain ⟨A1, c1, A1', c1', A1'', c1'', rfl, hc1, hd1, _⟩ := h1.parts
  obtain ⟨b1, o1, _, _, rfl, _⟩ := Net.rowAt F1.out (u := 0) (by omega)
  clear h1
  obtain ⟨WA, HWA⟩ : ∃ W, Hid (W = (w.alloc (.cells #[.slice (some ⟨b1, o1, none⟩) N.ends.length c1, .slice A1' N.ids.length c1', .slice A1'' N.inputs.length c1''] 33))) := ⟨_, Lib.hid rfl⟩
  have hbA : Below w.heap.size w WA := by rw [HWA.out]; exact ((Below.refl _ _).alloc (Nat.le_refl _) _)
  have hsA : w.heap.size + 1 ≤ WA.heap.size := by rw [HWA.out]; simp; try omega
  have bx1 : BoxN WA (w.heap.size) #[.slice (some ⟨b1, o1, none⟩) N.ends.length c1, .slice A1' N.ids.length c1', .slice A1'' N.inputs.length c1''] 33 := by rw [HWA.out]; exact (BoxN.new' _ _ _ (by simp))
  have G1 := Lib.hid (Net.below F1.out hbA hh1); clear F1
  go_enter Try.func32, Try.ntmps32
  go_upto_region 1 with (fail)
  rw [← HWA.out]; clear HWA
  have kbx1_0 : WA.cell? ⟨w.heap.size, 0, none⟩ = some (.slice (some ⟨b1, o1, none⟩) N.ends.length c1) := bx1.cell 0 (by simp)
  have kbx1_1 : WA.cell? ⟨w.heap.size, 1, none⟩ = some (.slice A1' N.ids.length c1') := bx1.cell 1 (by simp)
  have kbx1_2 : WA.cell? ⟨w.heap.size, 2, none⟩ = some (.slice A1'' N.inputs.length c1'') := bx1.cell 2 (by simp)
  go_wp2_with fail
  clear kbx1_0 kbx1_1 kbx1_2
  go_loopw [11, 3] (fun i ov wr => ∃ (k top : Nat) (qs : List Quad), k ≤ N.ends.length ∧ i = .int .i64 k ∧ Hid (OwnSS wr WA.heap.size top 23 ov (qs.map Quad.ints)) ∧ Hid (qs = edgesE N k) ∧ qs.length ≤ 6 * k ∧ Hid (Turned WA.heap.size WA.heap.size WA wr)) (fun i ov _ => N.ends.length - (intOf i).toNat)
  case atStart => exact ⟨0, WA.heap.size, [], Nat.zero_le _, rfl, Lib.hid (OwnSS.nil _ _ _ _ (Nat.le_refl _) (Nat.le_refl _)), Lib.hid rfl, Nat.zero_le _, Lib.hid (Turned.refl WA.heap.size WA.heap.size WA)⟩
  case round =>
    obtain ⟨k, top, qs, hk, rfl, HO, HD, hl, HF1⟩ := hrel
    have hs1 := HF1.out.size
    by_cases hlt : k < N.ends.length
    case neg =>
      obtain rfl : k = N.ends.length := by omega
      go_wp2_with fail
      go_ret
      refine ⟨_, rfl, ?_, (HF1.out.below_of hbA (by omega) (by omega))⟩
      have e : edges N = qs := HD.out.symm
      rw [e]
      exact ISSx.mono HO.out.ssx (by omega) (Nat.le_refl _)
    obtain ⟨Ar, cr, hbr, qr, hcr, hdr, hRr⟩ := Net.rowIn G1.out hlt
    replace qr := (HF1.out.cell (by omega) (by omega)).trans qr
    have Rr := Lib.hid hRr; clear hRr
    have hd6 := good_deg HG.out hlt
    obtain ⟨wo, rfl⟩ : ∃ wo : World, wo = wr := ⟨_, rfl⟩
    go_wp2_with fail
    clear qr
    go_loopw [18, 3] (fun i ov wi => ∃ (m top : Nat) (qs : List Quad), m ≤ (nthL N.ends k).length ∧ i = .int .i64 m ∧ Hid (OwnSS wi WA.heap.size top 23 ov (qs.map Quad.ints)) ∧ Hid (qs = edgesE N k ++ rowE N k m) ∧ qs.length ≤ 6 * k + m ∧ Hid (Turned WA.heap.size WA.heap.size WA wi)) (fun i ov _ => (nthL N.ends k).length - (intOf i).toNat)
    case atStart => exact ⟨0, top, qs, Nat.zero_le _, rfl, HO, Lib.hid (by rw [HD.out, rowE_zero, List.append_nil]), hl, HF1⟩
    case round =>
      clear HF1
      obtain ⟨m, top, qs, hm, rfl, HO, HE, hl, HF2⟩ := hrel
      have hs2 := HF2.out.size
      by_cases hml : m < (nthL N.ends k).length
      case neg =>
        obtain rfl : m = (nthL N.ends k).length := by omega
        go_wp2_with fail
        go_roundw
        case rel => exact ⟨k + 1, _, _, by omega, by go_num, HO, Lib.hid (by rw [HE.out, edgesE_succ]), by omega, HF2⟩
        case measure => simp [intOf]; omega
      obtain ⟨br, or, rfl, _, hbr', er, er'⟩ := (EndS.turned Rr.out HF2.out (by omega) (by omega)).opened hml
      obtain ⟨t, r, etr, ht, hr, eur⟩ := good_end HG.out hlt hml
      rw [etr] at er er'
      dsimp only at er er'
      have ETr := Lib.hid etr
      have EUr := Lib.hid eur
      clear etr eur
      go_upto_region 8 with (fail)
      refine nameC ?_
      intro W3 HW3
      have hg3 : wr.grownBy W3 none := by rw [HW3.out]; exact grown_alloc _ _
      have hs3 := hg3.size
      have HF3 := Lib.hid (HF2.out.still hg3); clear HF2
      have HO3 := Lib.hid (OwnSS.still HO.out hg3); clear HO
      have bxe3 := Lib.hid (show BoxN W3 wr.heap.size #[.int .i64 t, .int .i64 r] 72 by rw [HW3.out]; exact BoxN.new _ _ _)
      clear HW3
      clear er er'
      have kbx1_0 : W3.cell? ⟨w.heap.size, 0, none⟩ = some (.slice (some ⟨b1, o1, none⟩) N.ends.length c1) := (HF3.out.boxN bx1 (by omega)).cell 0 (by simp)
      have kbx1_1 : W3.cell? ⟨w.heap.size, 1, none⟩ = some (.slice A1' N.ids.length c1') := (HF3.out.boxN bx1 (by omega)).cell 1 (by simp)
      have kbx1_2 : W3.cell? ⟨w.heap.size, 2, none⟩ = some (.slice A1'' N.inputs.length c1'') := (HF3.out.boxN bx1 (by omega)).cell 2 (by simp)
      go_wp2_with fail
      clear kbx1_0 kbx1_1 kbx1_2
      refine (neFirst_any _ N lo1 hi1 k m _ (Net.turned G1.out HF3.out (by omega) (by omega)) (by omega) HG.out hlt hml).mono ?_
      rintro e W4 ⟨rfl, hb4⟩
      have hg4 := grown_below hb4; clear hb4
      have hs4 := hg4.size
      have HF4 := Lib.hid (HF3.out.still hg4); clear HF3
      have HO4 := Lib.hid (OwnSS.still HO3.out hg4); clear HO3
      have bxe4 := Lib.hid (BoxN.still bxe3.out hg4); clear bxe3
      cases hf : firstB N k m with
      | false =>
        have HFB := Lib.hid hf; clear hf
        go_wp2_with fail
        go_roundw
        case rel => exact ⟨m + 1, _, _, by omega, by go_num, HO4, Lib.hid (by rw [HE.out, rowE_no HFB.out]), by omega, HF4⟩
        case measure => simp [intOf]; omega
      | true =>
        have HFB := Lib.hid hf; clear hf
        have kbxe_0 : W4.cell? ⟨wr.heap.size, 0, none⟩ = some (.int .i64 t) := bxe4.out.cell 0 (by simp)
        have kbxe_1 : W4.cell? ⟨wr.heap.size, 1, none⟩ = some (.int .i64 r) := bxe4.out.cell 1 (by simp)
        have hlv := HO4.out.lt
        have htop : top ≤ W4.heap.size := by obtain ⟨_, _, _, _, _, _, h, _⟩ := HO4.out; exact h
        go_wp2_with (at_builtin; refine append_ss (s := .tmp 27) Try.underlying26 Try.infoRow (by decide) (W4.alloc (.cells #[.int .i64 k, .int .i64 m, .int .i64 t, .int .i64 r] 3)) rfl _ rfl (HO4.out.alloc _) (lo := W4.heap.size) (hi := W4.heap.size + 1) (IntS.newN W4 [(k : Int), m, t, r] _ rfl (by simp)) htop (by simp) (by omega) (fun g hg => .inl (hlv g hg).2) _ rfl (by simp [Act.eval, go_sem]) (by simp; omega) ?_; intro v' w' ho' hg' hat')
        go_roundw
        case rel =>
          refine ⟨m + 1, _, qs ++ [⟨k, m, t, r⟩], by omega, by go_num, Lib.hid (by rw [List.map_append]; exact ho'), Lib.hid ?_, by simp; omega, Lib.hid ((HF4.out.still (grown_alloc _ _)).grown hg' fun g hg => .inr (hlv g hg).1)⟩
          rw [HE.out, List.append_assoc, rowE_yes HFB.out]
          unfold quadAt; rw [ETr.out]
        case measure => simp [intOf]; omega

set_option maxHeartbeats 4000000 in
set_option maxRecDepth 100000 in
theorem elStubless_any (v1 : Value) (N : NetD) (lo1 hi1 : Nat) (w : World) (h1 : Net w lo1 hi1 v1 N) (hh1 : hi1 ≤ w.heap.size) (hg : N.good = true) :
    Calls Try.prog 62 #[v1] w fun e w' => e = .returned (.bool (noStub N)) ∧ Below w.heap.size w w' := by
  obtain ⟨n1, n40⟩ := good_n hg
  have HG := Lib.hid hg; clear hg
  have F1 := Lib.hid h1
  obtain ⟨A1, c1, A1', c1', A1'', c1'', rfl, hc1, hd1, _⟩ := h1.parts
  obtain ⟨b1, o1, _, _, rfl, _⟩ := Net.rowAt F1.out (u := 0) (by omega)
  clear h1
  obtain ⟨WA, HWA⟩ : ∃ W, Hid (W = (w.alloc (.cells #[.slice (some ⟨b1, o1, none⟩) N.ends.length c1, .slice A1' N.ids.length c1', .slice A1'' N.inputs.length c1''] 33))) := ⟨_, Lib.hid rfl⟩
  have hbA : Below w.heap.size w WA := by rw [HWA.out]; exact ((Below.refl _ _).alloc (Nat.le_refl _) _)
  have hsA : w.heap.size + 1 ≤ WA.heap.size := by rw [HWA.out]; simp; try omega
  have bx1 : BoxN WA (w.heap.size) #[.slice (some ⟨b1, o1, none⟩) N.ends.length c1, .slice A1' N.ids.length c1', .slice A1'' N.inputs.length c1''] 33 := by rw [HWA.out]; exact (BoxN.new' _ _ _ (by simp))
  have G1 := Lib.hid (Net.below F1.out hbA hh1); clear F1
  go_enter Try.func62, Try.ntmps62
  go_upto_region 1 with (fail)
  rw [← HWA.out]; clear HWA
  have kbx1_0 : WA.cell? ⟨w.heap.size, 0, none⟩ = some (.slice (some ⟨b1, o1, none⟩) N.ends.length c1) := bx1.cell 0 (by simp)
  have kbx1_1 : WA.cell? ⟨w.heap.size, 1, none⟩ = some (.slice A1' N.ids.length c1') := bx1.cell 1 (by simp)
  have kbx1_2 : WA.cell? ⟨w.heap.size, 2, none⟩ = some (.slice A1'' N.inputs.length c1'') := bx1.cell 2 (by simp)
  go_wp2_with fail
  clear kbx1_0 kbx1_1 kbx1_2
  go_loopw [10] (fun i wr => ∃ (k : Nat), k ≤ N.ends.length ∧ i = .int .i64 k ∧ Hid (∀ j, j < k → (List.range (nthL N.ends j).length).all (fun i => !selfB N j i) = true) ∧ Hid (Turned WA.heap.size WA.heap.size WA wr)) (fun i _ => N.ends.length - (intOf i).toNat)
  case atStart => exact ⟨0, Nat.zero_le _, rfl, Lib.hid fun j hj => absurd hj (by omega), Lib.hid (Turned.refl WA.heap.size WA.heap.size WA)⟩
  case round =>
    obtain ⟨k, hk, rfl, HU, HF1⟩ := hrel
    have hs1 := HF1.out.size
    by_cases hlt : k < N.ends.length
    case neg =>
      obtain rfl : k = N.ends.length := by omega
      go_wp2_with fail
      go_ret
      exact ⟨ret_bool (by unfold noStub; rw [rangeAll_true HU.out]), (HF1.out.below_of hbA (by omega) (by omega))⟩
    obtain ⟨Ar, cr, hbr, qr, hcr, hdr, hRr⟩ := Net.rowIn G1.out hlt
    replace qr := (HF1.out.cell (by omega) (by omega)).trans qr
    have Rr := Lib.hid hRr; clear hRr
    have hd6 := good_deg HG.out hlt
    obtain ⟨wo, rfl⟩ : ∃ wo : World, wo = wr := ⟨_, rfl⟩
    go_wp2_with fail
    clear qr
    go_loopw [17] (fun i wi => ∃ (m : Nat), m ≤ (nthL N.ends k).length ∧ i = .int .i64 m ∧ Hid (∀ j, j < m → (!selfB N k j) = true) ∧ Hid (Turned WA.heap.size WA.heap.size WA wi)) (fun i _ => (nthL N.ends k).length - (intOf i).toNat)
    case atStart => exact ⟨0, Nat.zero_le _, rfl, Lib.hid fun j hj => absurd hj (by omega), HF1⟩
    case round =>
      clear HF1
      obtain ⟨m, hm, rfl, HV, HF2⟩ := hrel
      have hs2 := HF2.out.size
      by_cases hml : m < (nthL N.ends k).length
      case neg =>
        obtain rfl : m = (nthL N.ends k).length := by omega
        go_wp2_with fail
        go_roundw
        case rel =>
          refine ⟨k + 1, by omega, by go_num, Lib.hid fun j hj => ?_, HF2⟩
          by_cases e : j = k
          · rw [e]; exact rangeAll_true HV.out
          · exact HU.out j (by omega)
        case measure => simp [intOf]; omega
      obtain ⟨br, or, rfl, _, hbr', er, er'⟩ := (EndS.turned Rr.out HF2.out (by omega) (by omega)).opened hml
      obtain ⟨t, r, etr, ht, hr, eur⟩ := good_end HG.out hlt hml
      rw [etr] at er er'
      dsimp only at er er'
      have ETr := Lib.hid etr
      have EUr := Lib.hid eur
      clear etr eur
      by_cases d1 : t = k ∧ r = m
      case pos =>
        have d1' : ∀ w, (binOp .eql 72 (.agg #[.int .i64 t, .int .i64 r]) (.agg #[.int .i64 k, .int .i64 m])).run Try.prog w = .ok (.bool true) w := fun w => by rw [eql_end, d1.1, d1.2]; simp
        have D1 := Lib.hid d1; clear d1
        go_wp2_with fail
        go_ret
        refine ⟨ret_bool ?_, (HF2.out.below_of hbA (by omega) (by omega)).alloc (by omega) _⟩
        unfold noStub
        rw [rangeAll_false hlt]
        refine rangeAll_false hml ?_
        unfold selfB; rw [ETr.out, D1.out.1, D1.out.2]; simp
      have d1' : ∀ w, (binOp .eql 72 (.agg #[.int .i64 t, .int .i64 r]) (.agg #[.int .i64 k, .int .i64 m])).run Try.prog w = .ok (.bool false) w := fun w => by rw [eql_end]; congr 2; simp; omega
      have D1 := Lib.hid d1; clear d1
      go_wp2_with fail
      go_roundw
      case rel =>
        refine ⟨m + 1, by omega, by go_num, Lib.hid fun j hj => ?_, Lib.hid (HF2.out.still (grown_alloc _ _))⟩
        by_cases e : j = m
        · rw [e]; unfold selfB; rw [ETr.out]; have := D1.out; simp; omega
        · exact HV.out j (by omega)
      case measure => simp [intOf]; omega

set_option maxHeartbeats 4000000 in
set_option maxRecDepth 100000 in
theorem orGood_any (v1 : Value) (N : NetD) (lo1 hi1 : Nat) (w : World) (h1 : Net w lo1 hi1 v1 N) (hh1 : hi1 ≤ w.heap.size) (hsz : N.sz ≤ 1048576) :
    Calls Try.prog 29 #[v1] w fun e w' => e = .returned (.bool N.stubless) ∧ Below w.heap.size w w' := by
  have F1 := Lib.hid h1
  obtain ⟨A1, c1, A1', c1', A1'', c1'', rfl, hc1, hd1, _⟩ := h1.parts
  clear h1
  obtain ⟨WA, HWA⟩ : ∃ W, Hid (W = (w.alloc (.cells #[.slice A1 N.ends.length c1, .slice A1' N.ids.length c1', .slice A1'' N.inputs.length c1''] 33))) := ⟨_, Lib.hid rfl⟩
  have hbA : Below w.heap.size w WA := by rw [HWA.out]; exact ((Below.refl _ _).alloc (Nat.le_refl _) _)
  have hsA : w.heap.size + 1 ≤ WA.heap.size := by rw [HWA.out]; simp; try omega
  have bx1 : BoxN WA (w.heap.size) #[.slice A1 N.ends.length c1, .slice A1' N.ids.length c1', .slice A1'' N.inputs.length c1''] 33 := by rw [HWA.out]; exact (BoxN.new' _ _ _ (by simp))
  have G1 := Lib.hid (Net.below F1.out hbA hh1); clear F1
  go_enter Try.func29, Try.ntmps29
  go_upto_region 1 with (fail)
  rw [← HWA.out]; clear HWA
  have kbx1_0 : WA.cell? ⟨w.heap.size, 0, none⟩ = some (.slice A1 N.ends.length c1) := bx1.cell 0 (by simp)
  have kbx1_1 : WA.cell? ⟨w.heap.size, 1, none⟩ = some (.slice A1' N.ids.length c1') := bx1.cell 1 (by simp)
  have kbx1_2 : WA.cell? ⟨w.heap.size, 2, none⟩ = some (.slice A1'' N.inputs.length c1'') := bx1.cell 2 (by simp)
  go_wp2_with fail
  clear kbx1_0 kbx1_1 kbx1_2
  refine (neGood_any _ N lo1 hi1 _ G1.out (by omega) hsz).mono ?_
  rintro e W1 ⟨rfl, hb1⟩
  have hg1 := grown_below hb1; clear hb1
  have hs1 := hg1.size
  have HF1 := Lib.hid ((Turned.refl WA.heap.size WA.heap.size WA).still hg1)
  by_cases hg : N.good = true
  case neg =>
    have hg' : N.good = false := by simpa using hg
    rw [hg']
    go_wp2_with fail
    go_ret
    exact ⟨ret_bool (by unfold NetD.stubless; rw [hg']; rfl), (HF1.out.below_of hbA (by omega) (by omega))⟩
  rw [hg]
  have HG := Lib.hid hg; clear hg
  have kbx1_0 : W1.cell? ⟨w.heap.size, 0, none⟩ = some (.slice A1 N.ends.length c1) := (HF1.out.boxN bx1 (by omega)).cell 0 (by simp)
  have kbx1_1 : W1.cell? ⟨w.heap.size, 1, none⟩ = some (.slice A1' N.ids.length c1') := (HF1.out.boxN bx1 (by omega)).cell 1 (by simp)
  have kbx1_2 : W1.cell? ⟨w.heap.size, 2, none⟩ = some (.slice A1'' N.inputs.length c1'') := (HF1.out.boxN bx1 (by omega)).cell 2 (by simp)
  go_wp2_with fail
  clear kbx1_0 kbx1_1 kbx1_2
  refine (elStubless_any _ N lo1 hi1 _ (Net.turned G1.out HF1.out (by omega) (by omega)) (by omega) HG.out).mono ?_
  rintro e W2 ⟨rfl, hb2⟩
  have hg2 := grown_below hb2; clear hb2
  have hs2 := hg2.size
  have HF2 := Lib.hid (HF1.out.still hg2); clear HF1
  go_wp2_with fail
  go_ret
  exact ⟨ret_bool (by unfold NetD.stubless; rw [HG.out, noStub_eq]; rfl), (HF2.out.below_of hbA (by omega) (by omega))⟩

end Go.Proofs.Ytmfjdiccohgihaa
