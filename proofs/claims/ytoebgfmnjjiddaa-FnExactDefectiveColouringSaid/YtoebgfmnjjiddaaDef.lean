/-
  Contracts: colours with few equal neighbours (program and reference).
-/
import Derived.Test.YtoebgfmnjjiddaaDefP
import Derived.Test.YtoebgfmnjjiddaaReg
import Derived.Test.YtoebgfmnjjiddaaExt
import Derived.Test.YtoebgfmnjjiddaaIsNet
import Derived.Test.YtoebgfmnjjiddaaNearP
namespace Go.Proofs.Ytoebgfmnjjiddaa
open Go.ChangeShapes Go.WideShapes Go.ChangeAt Go.RowKit
set_option linter.unusedVariables false

theorem ret_rib {r : Value} {a b : Int} {c d : Bool} (h : a = b) (h2 : c = d) : Ending.returned (.tuple #[r, .int .i64 a, .bool c]) = .returned (.tuple #[r, .int .i64 b, .bool d]) := by rw [h, h2]
theorem fidx_upTo' (p : Nat → Bool) (n : Nat) : fidx (fun x => p x.toNat) (upTo n) = fidxN p n := by
  rcases fidxN_cases p n with ⟨e, h1⟩ | ⟨k, hk, e, h1, h2⟩
  · rw [e]; exact fidx_none fun j hj => by rw [upTo_length] at hj; rw [nth_upTo hj]; exact h1 j hj
  · rw [e]; exact fidx_hit (by rw [upTo_length]; exact hk) (by rw [nth_upTo hk]; exact h1) fun j hj => by rw [nth_upTo (by omega)]; exact h2 j hj
theorem any_range_nthQ' (l : List Quad) (p : Quad → Bool) : ((List.range l.length).any fun k => p (nthQ l k)) = l.any p := by
  rw [Bool.eq_iff_iff, List.any_eq_true, List.any_eq_true]
  constructor
  · rintro ⟨k, hk, hp⟩; exact ⟨_, nthQ_mem (List.mem_range.1 hk), hp⟩
  · rintro ⟨q, hq, hp⟩
    obtain ⟨k, hk, e⟩ := List.mem_iff_getElem.1 hq
    exact ⟨k, List.mem_range.2 hk, by rw [nthQ_eq hk, e]; exact hp⟩
def defOut (N : NetD) (k : Int) : List Int := if defOk N k = true then defColours N k.toNat else []
def defSt (N : NetD) (k : Int) : Nat := if defOk N k = true then defSteps N k.toNat else 0
theorem defNo {N : NetD} {k : Int} (h : defOk N k = false) : defOut N k = [] ∧ defSt N k = 0 := by unfold defOut defSt; rw [h]; exact ⟨rfl, rfl⟩
theorem defYes {N : NetD} {k : Nat} (h : defOk N k = true) : defOut N k = defColours N k ∧ defSt N k = defSteps N k := by unfold defOut defSt; rw [if_pos h, if_pos h, Int.toNat_natCast]; exact ⟨rfl, rfl⟩
theorem loop1_any (a b c d : Int) (w : World) : Calls Try.prog 164 #[.agg #[.int .i64 a, .int .i64 b, .int .i64 c, .int .i64 d]] w fun e w' => e = .returned (.bool (loopB ⟨a, b, c, d⟩)) ∧ Below w.heap.size w w' := by
  by_cases d1 : a = c
  · have d1' : (a == c) = true := by simp [d1]
    have D1 := Lib.hid d1; clear d1
    go_enter Try.func164, Try.ntmps164
    go_wp2
    go_ret
    exact ⟨ret_bool (by unfold loopB; simp [D1.out]), below_a1 _ _⟩
  · have d1' : (a == c) = false := by simpa using d1
    have D1 := Lib.hid d1; clear d1
    go_enter Try.func164, Try.ntmps164
    go_wp2
    go_ret
    exact ⟨ret_bool (by unfold loopB; simp [D1.out]), below_a1 _ _⟩

set_option maxHeartbeats 1000000 in
set_option maxRecDepth 100000 in
theorem hasStubs_any (v1 : Value) (N : NetD) (lo1 hi1 : Nat) (w : World) (h1 : Net w lo1 hi1 v1 N) (hh1 : hi1 ≤ w.heap.size) (hg : N.good = true) :
    Calls Try.prog 104 #[v1] w fun e w' => e = .returned (.bool ((edges N).any loopB)) ∧ Below w.heap.size w w' := by
  have HG := Lib.hid hg; clear hg
  have F1 := Lib.hid h1
  obtain ⟨A1, c1, A1', c1', A1'', c1'', rfl, hc1, hd1, _⟩ := h1.parts
  clear h1
  obtain ⟨WA, HWA⟩ : ∃ W, Hid (W = (w.alloc (.cells #[.slice A1 N.ends.length c1, .slice A1' N.ids.length c1', .slice A1'' N.inputs.length c1''] 33))) := ⟨_, Lib.hid rfl⟩
  have hbA : Below w.heap.size w WA := by rw [HWA.out]; exact ((Below.refl _ _).alloc (Nat.le_refl _) _)
  have hsA : w.heap.size + 1 ≤ WA.heap.size := by rw [HWA.out]; simp; try omega
  have bx1 : BoxN WA (w.heap.size) #[.slice A1 N.ends.length c1, .slice A1' N.ids.length c1', .slice A1'' N.inputs.length c1''] 33 := by rw [HWA.out]; exact (BoxN.new' _ _ _ (by simp))
  have G1 := Lib.hid (Net.below F1.out hbA hh1); clear F1
  go_enter Try.func104, Try.ntmps104
  go_upto_region 1 with (fail)
  rw [← HWA.out]; clear HWA
  have kbx1_0 : WA.cell? ⟨w.heap.size, 0, none⟩ = some (.slice A1 N.ends.length c1) := bx1.cell 0 (by simp)
  have kbx1_1 : WA.cell? ⟨w.heap.size, 1, none⟩ = some (.slice A1' N.ids.length c1') := bx1.cell 1 (by simp)
  have kbx1_2 : WA.cell? ⟨w.heap.size, 2, none⟩ = some (.slice A1'' N.inputs.length c1'') := bx1.cell 2 (by simp)
  go_wp2_with fail
  clear kbx1_0 kbx1_1 kbx1_2
  refine (edges_any _ N lo1 hi1 _ G1.out (by omega) HG.out).mono ?_
  rintro e W1 ⟨r, rfl, hr, hb1⟩
  have hg1 := grown_below hb1; clear hb1
  have hs1 := hg1.size
  have HF1 := Lib.hid ((Turned.refl WA.heap.size WA.heap.size WA).still hg1)
  have R1 := Lib.hid hr; clear hr
  obtain ⟨Ar, cr, rfl, hcr, hdr⟩ := R1.out.dims
  go_wp2_with fail
  refine (ContainsFunc_edge 164 #[] (enters_of Try.func164 (by kernel_rfl) rfl) (fun k => loopB (nthQ (edges N) k)) _ (edges N) _ _ _ R1.out (Nat.le_refl _) (fun k hk W hW => loop1_any _ _ _ _ W)).mono ?_
  rintro e W2 ⟨rfl, hb2⟩
  have hg2 := grown_below hb2; clear hb2
  have hs2 := hg2.size
  have HF2 := Lib.hid (HF1.out.still hg2); clear HF1
  have R2 := Lib.hid (QuadS.still R1.out hg2 (by omega)); clear R1
  go_wp2_with fail
  go_ret
  exact ⟨ret_bool (by rw [any_range_nthQ']), (HF2.out.below_of hbA (by omega) (by omega))⟩

set_option maxHeartbeats 1000000 in
set_option maxRecDepth 100000 in
theorem fewest_any (v1 : Value) (N : NetD) (lo1 hi1 : Nat) (v : Nat) (v3 : Value) (l : List Int) (lo3 hi3 : Nat) (k : Nat) (w : World) (h1 : Net w lo1 hi1 v1 N) (hh1 : hi1 ≤ w.heap.size) (h3 : IntS w lo3 hi3 v3 l) (hh3 : hi3 ≤ w.heap.size) (hg : N.good = true) (hv : v < N.ends.length) (hl : l.length = N.ends.length) (hk1 : 1 ≤ k) (hk2 : k ≤ 10) :
    Calls Try.prog 108 #[v1, .int .i64 (v : Nat), v3, .int .i64 (k : Nat)] w fun e w' => e = .returned (.int .i64 (bestC N v l k : Nat)) ∧ Below w.heap.size w w' := by
  obtain ⟨n1, n40⟩ := good_n hg
  have HG := Lib.hid hg; clear hg
  have HL := Lib.hid hl; clear hl
  have hd6 := good_deg HG.out hv
  have F1 := Lib.hid h1
  obtain ⟨A1, c1, A1', c1', A1'', c1'', rfl, hc1, hd1, _⟩ := h1.parts
  obtain ⟨b1, o1, _, _, rfl, _⟩ := Net.rowAt F1.out (u := 0) (by omega)
  clear h1
  have F3 := Lib.hid h3
  obtain ⟨A3, c3, rfl, hc3, hd3⟩ := h3.dims
  clear h3
  obtain ⟨WA, HWA⟩ : ∃ W, Hid (W = (w.alloc (.cells #[.slice (some ⟨b1, o1, none⟩) N.ends.length c1, .slice A1' N.ids.length c1', .slice A1'' N.inputs.length c1''] 33))) := ⟨_, Lib.hid rfl⟩
  have hbA : Below w.heap.size w WA := by rw [HWA.out]; exact ((Below.refl _ _).alloc (Nat.le_refl _) _)
  have hsA : w.heap.size + 1 ≤ WA.heap.size := by rw [HWA.out]; simp; try omega
  have bx1 : BoxN WA (w.heap.size) #[.slice (some ⟨b1, o1, none⟩) N.ends.length c1, .slice A1' N.ids.length c1', .slice A1'' N.inputs.length c1''] 33 := by rw [HWA.out]; exact (BoxN.new' _ _ _ (by simp))
  have G1 := Lib.hid (Net.below F1.out hbA hh1); clear F1
  have G3 := Lib.hid (IntS.below F3.out hbA hh3); clear F3
  go_enter Try.func108, Try.ntmps108
  go_upto_region 1 with (fail)
  rw [← HWA.out]; clear HWA
  go_wp2_with fail
  go_loopw [10, 9] (fun c bv wr => ∃ (j b : Nat), 1 ≤ j ∧ j ≤ k ∧ c = .int .i64 j ∧ bv = .int .i64 b ∧ b ≤ 9 ∧ Hid (b = bestC N v l j) ∧ Hid (Turned WA.heap.size WA.heap.size WA wr)) (fun c bv _ => k - (intOf c).toNat)
  case atStart => exact ⟨1, 0, Nat.le_refl _, hk1, rfl, rfl, by omega, Lib.hid (bestC_one _ _ _).symm, Lib.hid (Turned.refl WA.heap.size WA.heap.size WA)⟩
  case round =>
    obtain ⟨j, b, hj1, hj2, rfl, rfl, hb, HB, HF1⟩ := hrel
    have hs1 := HF1.out.size
    by_cases hlt : j < k
    case neg =>
      have ejk : j = k := by omega
      have HBK := Lib.hid (show b = bestC N v l k by rw [← ejk]; exact HB.out)
      clear ejk
      go_wp2_with fail
      go_ret
      exact ⟨ret_int (by rw [HBK.out]), (HF1.out.below_of hbA (by omega) (by omega))⟩
    have HST := Lib.hid (show bestC N v l (j + 1) = if portsC N v l (j : Int) < portsC N v l (b : Int) then j else b by rw [bestC, ← HB.out])
    have hjk : (j : Int) < (k : Int) := by omega
    go_wp2_with fail
    by_cases hpp : portsC N v l (j : Int) < portsC N v l (b : Int)
    case pos =>
      have hpp' : decide ((portsC N v l (j : Int) : Int) < (portsC N v l (b : Int) : Int)) = true := decide_eq_true (by omega)
      have hpp2 : (portsC N v l (j : Int) : Int) < (portsC N v l (b : Int) : Int) := by omega
      have ebx1_0 : ∀ p, (ext wr p).cell? ⟨w.heap.size, 0, none⟩ = some (.slice (some ⟨b1, o1, none⟩) N.ends.length c1) := ext_cell wr (a := ⟨w.heap.size, 0, none⟩) ((HF1.out.boxN bx1 (by omega))).lt ((HF1.out.boxN bx1 (by omega)).cell 0 (by simp))
      have ebx1_1 : ∀ p, (ext wr p).cell? ⟨w.heap.size, 1, none⟩ = some (.slice A1' N.ids.length c1') := ext_cell wr (a := ⟨w.heap.size, 1, none⟩) ((HF1.out.boxN bx1 (by omega))).lt ((HF1.out.boxN bx1 (by omega)).cell 1 (by simp))
      have ebx1_2 : ∀ p, (ext wr p).cell? ⟨w.heap.size, 2, none⟩ = some (.slice A1'' N.inputs.length c1'') := ext_cell wr (a := ⟨w.heap.size, 2, none⟩) ((HF1.out.boxN bx1 (by omega))).lt ((HF1.out.boxN bx1 (by omega)).cell 2 (by simp))
      refine wp_region_ext (by kernel_rfl) (by kernel_rfl) ?_
      repeat (go_big_quiet_step ((first | (go_at_call 107; exact ext_call (portsWith_any _ N lo1 hi1 v _ l lo3 hi3 _ _ (Net.below (Net.turned G1.out HF1.out (by omega) (by omega)) (ext_below _ _) (by omega)) (Nat.le_trans (by omega) (ext_size _ _)) (IntS.below (IntS.turned G3.out HF1.out (by omega) (by omega)) (ext_below _ _) (by omega)) (Nat.le_trans (by omega) (ext_size _ _)) HG.out hv HL.out)))))
      refine wpQuiet_nil ?_
      rintro w1 ⟨p, rfl⟩
      clear ebx1_0 ebx1_1 ebx1_2
      obtain ⟨W2, HW2⟩ : ∃ W, Hid (W = ext wr p) := ⟨_, Lib.hid rfl⟩
      rw [← HW2.out]
      have hg2 : wr.grownBy W2 none := by rw [HW2.out]; exact grown_below (ext_below _ _)
      clear HW2
      have hs2 := hg2.size
      have HF2 := Lib.hid (HF1.out.still hg2); clear HF1
      go_wp2_with fail
      go_roundw
      case rel => exact ⟨j + 1, j, by omega, by omega, by go_num, by go_num, by omega, Lib.hid (by rw [HST.out, if_pos hpp]), HF2⟩
      case measure => simp [intOf]; omega
    have hpp' : decide ((portsC N v l (j : Int) : Int) < (portsC N v l (b : Int) : Int)) = false := decide_eq_false (by omega)
    have hpp2 : ¬ (portsC N v l (j : Int) : Int) < (portsC N v l (b : Int) : Int) := by omega
    have ebx1_0 : ∀ p, (ext wr p).cell? ⟨w.heap.size, 0, none⟩ = some (.slice (some ⟨b1, o1, none⟩) N.ends.length c1) := ext_cell wr (a := ⟨w.heap.size, 0, none⟩) ((HF1.out.boxN bx1 (by omega))).lt ((HF1.out.boxN bx1 (by omega)).cell 0 (by simp))
    have ebx1_1 : ∀ p, (ext wr p).cell? ⟨w.heap.size, 1, none⟩ = some (.slice A1' N.ids.length c1') := ext_cell wr (a := ⟨w.heap.size, 1, none⟩) ((HF1.out.boxN bx1 (by omega))).lt ((HF1.out.boxN bx1 (by omega)).cell 1 (by simp))
    have ebx1_2 : ∀ p, (ext wr p).cell? ⟨w.heap.size, 2, none⟩ = some (.slice A1'' N.inputs.length c1'') := ext_cell wr (a := ⟨w.heap.size, 2, none⟩) ((HF1.out.boxN bx1 (by omega))).lt ((HF1.out.boxN bx1 (by omega)).cell 2 (by simp))
    refine wp_region_ext (by kernel_rfl) (by kernel_rfl) ?_
    repeat (go_big_quiet_step ((first | (go_at_call 107; exact ext_call (portsWith_any _ N lo1 hi1 v _ l lo3 hi3 _ _ (Net.below (Net.turned G1.out HF1.out (by omega) (by omega)) (ext_below _ _) (by omega)) (Nat.le_trans (by omega) (ext_size _ _)) (IntS.below (IntS.turned G3.out HF1.out (by omega) (by omega)) (ext_below _ _) (by omega)) (Nat.le_trans (by omega) (ext_size _ _)) HG.out hv HL.out)))))
    refine wpQuiet_nil ?_
    rintro w1 ⟨p, rfl⟩
    clear ebx1_0 ebx1_1 ebx1_2
    obtain ⟨W3, HW3⟩ : ∃ W, Hid (W = ext wr p) := ⟨_, Lib.hid rfl⟩
    rw [← HW3.out]
    have hg3 : wr.grownBy W3 none := by rw [HW3.out]; exact grown_below (ext_below _ _)
    clear HW3
    have hs3 := hg3.size
    have HF3 := Lib.hid (HF1.out.still hg3); clear HF1
    go_wp2_with fail
    go_roundw
    case rel => exact ⟨j + 1, b, by omega, by omega, by go_num, by go_num, by omega, Lib.hid (by rw [HST.out, if_neg hpp]), HF3⟩
    case measure => simp [intOf]; omega

theorem tdiv_nat (a b : Nat) : Int.tdiv (a : Int) (b : Int) = ((a / b : Nat) : Int) := (Int.ofNat_tdiv a b).symm
set_option maxHeartbeats 1500000 in
set_option maxRecDepth 100000 in
theorem def1_any (v k gn gc gk : Nat) (N : NetD) (l : List Int) (bN oN cN : Nat) (v2 v3 : Value) (Ac : Option Addr) (cc : Nat) (lo1 hi1 lo3 hi3 : Nat) (w : World)
    (xn : BoxN w gn #[.slice (some ⟨bN, oN, none⟩) N.ends.length cN, v2, v3] 33) (xc : BoxN w gc #[.slice Ac l.length cc] 23) (xk : BoxN w gk #[.int .i64 k] 3)
    (hN : Net w lo1 hi1 (.agg #[.slice (some ⟨bN, oN, none⟩) N.ends.length cN, v2, v3]) N) (hC : IntS w lo3 hi3 (.slice Ac l.length cc) l)
    (hh1 : hi1 ≤ w.heap.size) (hh3 : hi3 ≤ w.heap.size) (hg : N.good = true) (hl : l.length = N.ends.length) (hv : v < N.ends.length) (hk1 : 1 ≤ k) (hk2 : k ≤ 10) :
    Calls Try.prog 106 #[.int .i64 v, .pointer (some ⟨gn, 0, none⟩), .pointer (some ⟨gc, 0, none⟩), .pointer (some ⟨gk, 0, none⟩)] w fun e w' => e = .returned (.bool (crowdAt N k l v)) ∧ Below w.heap.size w w' := by
  obtain ⟨n1, n40⟩ := good_n hg
  have HG := Lib.hid hg
  have HL := Lib.hid hl
  have hd6 := good_deg hg hv
  have G1 := Lib.hid hN
  have G3 := Lib.hid hC
  obtain ⟨A4, c4, hbn, q4, hc4, hd4, _⟩ := Net.rowIn G1.out hv
  obtain ⟨b3, o3, hA3, _, hb3, x3, _⟩ := IntS.opened G3.out (j := v) (by omega)
  have hvi : (v : Int) < N.ends.length := by omega
  have hvl : (v : Int) < l.length := by omega
  have hki : ((k : Int) == 0) = false := by simp; omega
  obtain ⟨d, HD⟩ : ∃ x, Hid ((nthL N.ends v).length = x) := ⟨_, Lib.hid rfl⟩
  obtain ⟨c, HC⟩ : ∃ x, Hid (nth l v = x) := ⟨_, Lib.hid rfl⟩
  obtain ⟨pc, HPC⟩ : ∃ x, Hid (portsC N v l c = x) := ⟨_, Lib.hid rfl⟩
  rw [HC.out] at x3
  rw [HD.out] at q4 hc4 hd6
  have htd := tdiv_nat d k
  have hdk : d / k ≤ d := Nat.div_le_self _ _
  obtain ⟨dq, HDQ⟩ : ∃ x, Hid (d / k = x) := ⟨_, Lib.hid rfl⟩
  rw [HDQ.out] at htd hdk
  have hwq : IntKind.i64.wrap (dq : Int) = (dq : Int) := IntWalk.i64_in _ (by omega)
  have HR := Lib.hid (show crowdAt N k l v = decide (dq < pc) by rw [crowdAt_col HC.out, HPC.out, HD.out, HDQ.out])
  have e0 : ∀ p, (ext w p).cell? ⟨gn, 0, none⟩ = some (.slice (some ⟨bN, oN, none⟩) N.ends.length cN) := ext_cell w (a := ⟨gn, 0, none⟩) xn.lt (xn.cell 0 (by simp))
  have e1 : ∀ p, (ext w p).cell? ⟨gn, 1, none⟩ = some v2 := ext_cell w (a := ⟨gn, 1, none⟩) xn.lt (xn.cell 1 (by simp))
  have e2 : ∀ p, (ext w p).cell? ⟨gn, 2, none⟩ = some v3 := ext_cell w (a := ⟨gn, 2, none⟩) xn.lt (xn.cell 2 (by simp))
  have e3 : ∀ p, (ext w p).cell? ⟨gc, 0, none⟩ = some (.slice Ac l.length cc) := ext_cell w (a := ⟨gc, 0, none⟩) xc.lt (xc.cell 0 (by simp))
  have e4 : ∀ p, (ext w p).cell? ⟨gk, 0, none⟩ = some (.int .i64 k) := ext_cell w (a := ⟨gk, 0, none⟩) xk.lt (xk.cell 0 (by simp))
  have e5 : ∀ p, (ext w p).cell? ⟨b3, o3 + v, none⟩ = some (.int .i64 c) := ext_cell w (a := ⟨b3, o3 + v, none⟩) (by show b3 < _; omega) x3
  have e6 : ∀ p, (ext w p).cell? ⟨bN, oN + v, none⟩ = some (.slice A4 d c4) := ext_cell w (a := ⟨bN, oN + v, none⟩) (by show bN < _; omega) q4
  subst hA3
  clear xn xc xk hN hC hg hl x3 q4
  go_enter Try.func106, Try.ntmps106
  go_wp2_with fail
  by_cases hcp : dq < pc
  · have hcp' : decide ((dq : Int) < (pc : Int)) = true := decide_eq_true (by omega)
    refine wp_region_ext (by kernel_rfl) (by kernel_rfl) ?_
    repeat (go_big_quiet_step ((go_at_call 107; exact ext_call ((portsWith_any _ N lo1 hi1 v _ l lo3 hi3 c _ (G1.out.below (ext_below _ _) hh1) (Nat.le_trans (by omega) (ext_size _ _)) (G3.out.below (ext_below _ _) hh3) (Nat.le_trans (by omega) (ext_size _ _)) HG.out hv HL.out).mono fun e w' ⟨he, hb⟩ => ⟨by rw [he, HPC.out], hb⟩))))
    refine wpQuiet_nil ?_
    rintro w1 ⟨p, rfl⟩
    go_wp2_with fail
    go_ret
    exact ⟨ret_bool (by rw [HR.out, decide_eq_true hcp]), ext_below _ _⟩
  · have hcp' : decide ((dq : Int) < (pc : Int)) = false := decide_eq_false (by omega)
    refine wp_region_ext (by kernel_rfl) (by kernel_rfl) ?_
    repeat (go_big_quiet_step ((go_at_call 107; exact ext_call ((portsWith_any _ N lo1 hi1 v _ l lo3 hi3 c _ (G1.out.below (ext_below _ _) hh1) (Nat.le_trans (by omega) (ext_size _ _)) (G3.out.below (ext_below _ _) hh3) (Nat.le_trans (by omega) (ext_size _ _)) HG.out hv HL.out).mono fun e w' ⟨he, hb⟩ => ⟨by rw [he, HPC.out], hb⟩))))
    refine wpQuiet_nil ?_
    rintro w1 ⟨p, rfl⟩
    go_wp2_with fail
    go_ret
    exact ⟨ret_bool (by rw [HR.out, decide_eq_false hcp]), ext_below _ _⟩

set_option maxHeartbeats 1000000 in
set_option maxRecDepth 100000 in
theorem Def_impl_yes (v1 : Value) (N : NetD) (lo1 hi1 : Nat) (k : Nat) (w : World) (h1 : Net w lo1 hi1 v1 N) (hh1 : hi1 ≤ w.heap.size) (hz1 : N.sz ≤ 1048576) (hk1 : 1 ≤ k) (hk2 : k ≤ 10) :
    Calls Try.prog 46 #[v1, .int .i64 (k : Nat)] w fun e w' => ∃ r, e = .returned (.tuple #[r, .int .i64 (defSt N k : Nat), .bool (defOk N k)]) ∧ IntS w' w.heap.size w'.heap.size r (defOut N k) ∧ Below w.heap.size w w' := by
  have hin : inB (k : Int) 1 10 = true := inB_true (by omega) (by omega)
  have HIN := Lib.hid hin
  have F1 := Lib.hid h1
  obtain ⟨A1, c1, A1', c1', A1'', c1'', rfl, hc1, hd1, _⟩ := h1.parts
  clear h1
  obtain ⟨WA, HWA⟩ : ∃ W, Hid (W = ((w.alloc (.cells #[.slice A1 N.ends.length c1, .slice A1' N.ids.length c1', .slice A1'' N.inputs.length c1''] 33)).alloc (.cells #[.int .i64 k] 3))) := ⟨_, Lib.hid rfl⟩
  have hbA : Below w.heap.size w WA := by rw [HWA.out]; exact (((Below.refl _ _).alloc (Nat.le_refl _) _).alloc (by simp; try omega) _)
  have hsA : w.heap.size + 2 ≤ WA.heap.size := by rw [HWA.out]; simp; try omega
  have bx1 : BoxN WA (w.heap.size) #[.slice A1 N.ends.length c1, .slice A1' N.ids.length c1', .slice A1'' N.inputs.length c1''] 33 := by rw [HWA.out]; exact (BoxN.new' _ _ _ (by simp)).still (grown_alloc _ _)
  have bx2 : BoxN WA (w.heap.size + 1) #[.int .i64 k] 3 := by rw [HWA.out]; exact (BoxN.new' _ _ _ (by simp))
  have G1 := Lib.hid (Net.below F1.out hbA hh1); clear F1
  go_enter Try.func46, Try.ntmps46
  go_upto_region 1 with (fail)
  rw [← HWA.out]; clear HWA
  have kbx1_0 : WA.cell? ⟨w.heap.size, 0, none⟩ = some (.slice A1 N.ends.length c1) := bx1.cell 0 (by simp)
  have kbx1_1 : WA.cell? ⟨w.heap.size, 1, none⟩ = some (.slice A1' N.ids.length c1') := bx1.cell 1 (by simp)
  have kbx1_2 : WA.cell? ⟨w.heap.size, 2, none⟩ = some (.slice A1'' N.inputs.length c1'') := bx1.cell 2 (by simp)
  go_wp2_with fail
  clear kbx1_0 kbx1_1 kbx1_2
  refine (IsNetwork_any _ N lo1 hi1 _ G1.out (by omega) hz1).mono ?_
  rintro e W1 ⟨rfl, hb1⟩
  have hg1 := grown_below hb1; clear hb1
  have hs1 := hg1.size
  have HF1 := Lib.hid ((Turned.refl WA.heap.size WA.heap.size WA).still hg1)
  by_cases hg : N.good = true
  case neg =>
    have hg' : N.good = false := by simpa using hg
    rw [hg']
    have HG := Lib.hid hg'; clear hg hg'
    go_wp2_with fail
    go_ret3
    exact ⟨_, ret_rib (by rw [(defNo (show defOk N k = false by unfold defOk; rw [HG.out]; rfl)).2]; rfl) (show defOk N k = false by unfold defOk; rw [HG.out]; rfl).symm, by rw [(defNo (show defOk N k = false by unfold defOk; rw [HG.out]; rfl)).1]; exact IntS.nil _ _ _, (HF1.out.below_of hbA (by omega) (by omega))⟩
  rw [hg]
  have HG := Lib.hid hg; clear hg
  obtain ⟨n1, n40⟩ := good_n HG.out
  obtain ⟨b1, o1, _, _, rfl, _⟩ := Net.rowAt (Net.turned G1.out HF1.out (by omega) (by omega)) (u := 0) (by omega)
  have kbx1_0 : W1.cell? ⟨w.heap.size, 0, none⟩ = some (.slice (some ⟨b1, o1, none⟩) N.ends.length c1) := (HF1.out.boxN bx1 (by omega)).cell 0 (by simp)
  have kbx1_1 : W1.cell? ⟨w.heap.size, 1, none⟩ = some (.slice A1' N.ids.length c1') := (HF1.out.boxN bx1 (by omega)).cell 1 (by simp)
  have kbx1_2 : W1.cell? ⟨w.heap.size, 2, none⟩ = some (.slice A1'' N.inputs.length c1'') := (HF1.out.boxN bx1 (by omega)).cell 2 (by simp)
  have kbx2_0 : W1.cell? ⟨w.heap.size + 1, 0, none⟩ = some (.int .i64 k) := (HF1.out.boxN bx2 (by omega)).cell 0 (by simp)
  go_wp2_with (go_at_call 103; refine (within_any _ _ _ _).mono ?_; rintro e w' ⟨rfl, rfl⟩; rw [hin])
  clear kbx1_0 kbx1_1 kbx1_2 kbx2_0
  refine (hasStubs_any _ N lo1 hi1 _ (Net.turned G1.out HF1.out (by omega) (by omega)) (by omega) HG.out).mono ?_
  rintro e W2 ⟨rfl, hb2⟩
  have hg2 := grown_below hb2; clear hb2
  have hs2 := hg2.size
  have HF2 := Lib.hid (HF1.out.still hg2); clear HF1
  cases hn : (edges N).any loopB with
  | true =>
    have HN := Lib.hid (show defOk N k = false by unfold defOk; rw [HG.out, noLoop_eq HG.out, hn]; simp)
    clear hn
    go_wp2_with fail
    go_ret3
    exact ⟨_, ret_rib (by rw [(defNo (HN.out)).2]; rfl) (HN.out).symm, by rw [(defNo (HN.out)).1]; exact IntS.nil _ _ _, (HF2.out.below_of hbA (by omega) (by omega))⟩
  | false =>
    have HNL := Lib.hid (show noLoop N = true by rw [noLoop_eq HG.out, hn]; rfl)
    have HOK := Lib.hid (show defOk N k = true by unfold defOk; rw [HG.out, HIN.out, HNL.out]; rfl)
    clear hn
    have hmk := fun W => run_make_row' (P := Try.prog) 23 3 (.int .i64 0) 8 Try.underlying23 Try.info3 rfl .i64 .i64 N.ends.length (by omega) (by omega) W
    have kbx1_0 : W2.cell? ⟨w.heap.size, 0, none⟩ = some (.slice (some ⟨b1, o1, none⟩) N.ends.length c1) := (HF2.out.boxN bx1 (by omega)).cell 0 (by simp)
    have kbx1_1 : W2.cell? ⟨w.heap.size, 1, none⟩ = some (.slice A1' N.ids.length c1') := (HF2.out.boxN bx1 (by omega)).cell 1 (by simp)
    have kbx1_2 : W2.cell? ⟨w.heap.size, 2, none⟩ = some (.slice A1'' N.inputs.length c1'') := (HF2.out.boxN bx1 (by omega)).cell 2 (by simp)
    go_upto_region 4 with (fail)
    clear kbx1_0 kbx1_1 kbx1_2 hmk hin
    refine nameC ?_
    intro W3 HW3
    have hg3 : W2.grownBy W3 none := by rw [HW3.out]; exact grownBy_trans (grown_alloc _ _) (grown_alloc _ _)
    have hs3 := hg3.size
    have HF3 := Lib.hid (HF2.out.still hg3); clear HF2
    have HO := Lib.hid (show IntS W3 W2.heap.size (W2.heap.size + 1) (.slice (some ⟨W2.heap.size, 0, none⟩) N.ends.length N.ends.length) (def0 N) by rw [HW3.out]; exact IntS.still (made_ints _ _ _ rfl (by omega)) (grown_alloc _ _) (by simp))
    have bxd := Lib.hid (show BoxN W3 (W2.heap.size + 1) #[.slice (some ⟨W2.heap.size, 0, none⟩) N.ends.length N.ends.length] 23 by rw [HW3.out]; exact BoxN.new' _ _ _ (by simp))
    have hz : W2.heap.size + 2 ≤ W3.heap.size := by rw [HW3.out]; simp
    clear HW3
    have N_3 := Lib.hid (Net.turned G1.out HF3.out (by omega) (by omega)); clear G1
    have bx1_3 := HF3.out.boxN bx1 (by omega); clear bx1
    have bx2_3 := HF3.out.boxN bx2 (by omega); clear bx2
    have hbA3 := (HF3.out.below_of hbA (by omega) (by omega)); clear hbA HF3
    go_wp2_with fail
    go_loopw [8] (fun sv wr => ∃ (s : Nat) (l : List Int), sv = .int .i64 s ∧ Hid (IntS wr W2.heap.size (W2.heap.size + 1) (.slice (some ⟨W2.heap.size, 0, none⟩) N.ends.length N.ends.length) l) ∧ Hid (DTop N k s l) ∧ W2.heap.size + 2 ≤ wr.heap.size ∧ Hid (Turned W2.heap.size (W2.heap.size + 1) W3 wr)) (fun sv _ => 241 - (intOf sv).toNat)
    case atStart => exact ⟨0, def0 N, rfl, HO, Lib.hid (DTop.zero HG.out (by omega)), hz, Lib.hid (Turned.refl W2.heap.size (W2.heap.size + 1) W3)⟩
    case round =>
      obtain ⟨s, l, rfl, HO, HT, hz, HF4⟩ := hrel
      have hs4 := HF4.out.size
      have hlen := HT.out.len
      have hpot := HT.out.pot
      have kd : wr.cell? ⟨W2.heap.size + 1, 0, none⟩ = some (.slice (some ⟨W2.heap.size, 0, none⟩) N.ends.length N.ends.length) := (HF4.out.boxN bxd.out (by omega)).cell 0 (by simp)
      have hmf : ∀ (fn : Fn) (first cap : Array Value) (w : World), (Instr.makeFunc fn first cap).run Try.prog w = .ok (.func fn first cap) w := fun _ _ _ _ => rfl
      go_wp2_with fail
      clear kd
      refine (numbersTo_any N.ends.length _ (by omega)).mono ?_
      rintro e W5 ⟨r, rfl, hr, hb5⟩
      have hg5 := grown_below hb5; clear hb5
      have hs5 := hg5.size
      have HF5 := Lib.hid (HF4.out.still hg5); clear HF4
      have O5 := Lib.hid (IntS.still HO.out hg5 (by omega)); clear HO
      have R5 := Lib.hid hr; clear hr
      obtain ⟨Ar, cr, rfl, hcr, hdr⟩ := R5.out.dims
      rw [upTo_length] at hcr ⊢
      have n1x := Lib.hid (Net.turned N_3.out HF5.out (by omega) (by omega))
      have b1x := Lib.hid (HF5.out.boxN bx1_3 (by omega))
      have b2x := Lib.hid (HF5.out.boxN bx2_3 (by omega))
      have b3x := Lib.hid (HF5.out.boxN bxd.out (by omega))
      have o1x := Lib.hid O5.out
      rw [← hlen] at b3x
      have HCF := Lib.hid (IndexFunc_int 106 #[.pointer (some ⟨w.heap.size, 0, none⟩), .pointer (some ⟨W2.heap.size + 1, 0, none⟩), .pointer (some ⟨w.heap.size + 1, 0, none⟩)] (enters_of Try.func106 (by kernel_rfl) rfl) (fun x => crowdAt N k l x.toNat) _ (upTo N.ends.length) _ _ _ R5.out (Nat.le_refl _) (fun x hx W hW => by
        obtain ⟨j, hj, rfl⟩ : ∃ j : Nat, j < N.ends.length ∧ x = j := by
          unfold upTo at hx
          simp only [List.mem_map, List.mem_range] at hx
          obtain ⟨j, hj, e⟩ := hx
          exact ⟨j, hj, e.symm⟩
        have hws := hW.size
        have l1 := b1x.out.lt
        have l2 := b2x.out.lt
        have l3 := b3x.out.lt
        exact def1_any j k w.heap.size (W2.heap.size + 1) (w.heap.size + 1) N l b1 o1 _ _ _ _ _ lo1 hi1 _ _ W (b1x.out.below hW l1) (b3x.out.below hW l3) (b2x.out.below hW l2) (n1x.out.below hW (by omega)) (IntS.below (by rw [hlen]; exact o1x.out) hW (by omega)) (by omega) (by omega) HG.out hlen hj hk1 hk2))
      clear n1x b1x b2x b3x o1x
      have hu := upTo_length N.ends.length
      rw [hu] at HCF
      clear hu
      go_wp2_with fail
      refine (HCF.out).mono ?_
      rintro e W6 ⟨rfl, hb6⟩
      have hg6 := grown_below hb6; clear hb6
      have hs6 := hg6.size
      have HF6 := Lib.hid (HF5.out.still hg6); clear HF5
      have O6 := Lib.hid (IntS.still O5.out hg6 (by omega)); clear O5
      have R6 := Lib.hid (IntS.still R5.out hg6 (by omega)); clear R5
      rw [fidx_upTo']
      have kd : W6.cell? ⟨W2.heap.size + 1, 0, none⟩ = some (.slice (some ⟨W2.heap.size, 0, none⟩) N.ends.length N.ends.length) := (HF6.out.boxN bxd.out (by omega)).cell 0 (by simp)
      rcases fidxN_cases (crowdAt N k l) N.ends.length with ⟨e, _⟩ | ⟨v, hv, e, hp, _⟩
      case inl =>
        have E := Lib.hid (HT.out.stop e)
        rw [e]
        clear e
        go_wp2_with fail
        go_ret3
        refine ⟨_, ret_rib (by rw [(defYes HOK.out).2, E.out.2]) HOK.out.symm, ?_, (HF6.out.below_of hbA3 (by omega) (by omega))⟩
        rw [(defYes HOK.out).1, E.out.1]
        exact O6.out.mono (by omega) (by omega)
      have HT2 := Lib.hid (HT.out.step HG.out HNL.out (by omega) hv e hp)
      rw [e]
      clear e hp
      obtain ⟨y1, y2⟩ := O6.out.at0 (j := v) (by rw [hlen]; exact hv)
      have hvi : (v : Int) < N.ends.length := by omega
      have hbb := bestC_lt N v l k
      have m0 : W6.cell? ⟨w.heap.size, 0, none⟩ = some (.slice (some ⟨b1, o1, none⟩) N.ends.length c1) := (HF6.out.boxN bx1_3 (by omega)).cell 0 (by simp)
      have m1 : W6.cell? ⟨w.heap.size, 1, none⟩ = some (.slice A1' N.ids.length c1') := (HF6.out.boxN bx1_3 (by omega)).cell 1 (by simp)
      have m2 : W6.cell? ⟨w.heap.size, 2, none⟩ = some (.slice A1'' N.inputs.length c1'') := (HF6.out.boxN bx1_3 (by omega)).cell 2 (by simp)
      have m3 : W6.cell? ⟨w.heap.size + 1, 0, none⟩ = some (.int .i64 k) := (HF6.out.boxN bx2_3 (by omega)).cell 0 (by simp)
      obtain ⟨yv, HYV⟩ : ∃ x, Hid (nth l v = x) := ⟨_, Lib.hid rfl⟩
      rw [HYV.out] at y1
      obtain ⟨bc, HBC⟩ : ∃ x : Nat, Hid (bestC N v l k = x) := ⟨_, Lib.hid rfl⟩
      rw [HBC.out] at hbb
      go_wp2_with fail
      have hS0 : W6.cell? ⟨W2.heap.size + 1, 0, none⟩ = some (.slice (some ⟨W2.heap.size, 0, none⟩) N.ends.length N.ends.length) ∧ W6.cell? ⟨w.heap.size, 0, none⟩ = some (.slice (some ⟨b1, o1, none⟩) N.ends.length c1) ∧ W6.cell? ⟨w.heap.size, 1, none⟩ = some (.slice A1' N.ids.length c1') ∧ W6.cell? ⟨w.heap.size, 2, none⟩ = some (.slice A1'' N.inputs.length c1'') ∧ W6.cell? ⟨w.heap.size + 1, 0, none⟩ = some (.int .i64 k) := ⟨kd, m0, m1, m2, m3⟩
      clear kd m0 m1 m2 m3
      refine wp_region_U (fun w' => w'.cell? ⟨W2.heap.size + 1, 0, none⟩ = some (.slice (some ⟨W2.heap.size, 0, none⟩) N.ends.length N.ends.length) ∧ w'.cell? ⟨w.heap.size, 0, none⟩ = some (.slice (some ⟨b1, o1, none⟩) N.ends.length c1) ∧ w'.cell? ⟨w.heap.size, 1, none⟩ = some (.slice A1' N.ids.length c1') ∧ w'.cell? ⟨w.heap.size, 2, none⟩ = some (.slice A1'' N.inputs.length c1'') ∧ w'.cell? ⟨w.heap.size + 1, 0, none⟩ = some (.int .i64 k)) [8] (by kernel_rfl) ?_
      refine nameU ?_
      intro W7 HW7
      have hg7 : W6.grownBy W7 none := by rw [HW7.out]; exact grown_drew _
      have hS : W7.cell? ⟨W2.heap.size + 1, 0, none⟩ = some (.slice (some ⟨W2.heap.size, 0, none⟩) N.ends.length N.ends.length) ∧ W7.cell? ⟨w.heap.size, 0, none⟩ = some (.slice (some ⟨b1, o1, none⟩) N.ends.length c1) ∧ W7.cell? ⟨w.heap.size, 1, none⟩ = some (.slice A1' N.ids.length c1') ∧ W7.cell? ⟨w.heap.size, 2, none⟩ = some (.slice A1'' N.inputs.length c1'') ∧ W7.cell? ⟨w.heap.size + 1, 0, none⟩ = some (.int .i64 k) := by rw [HW7.out]; exact hS0
      have y1d : W7.cell? ⟨W2.heap.size, v, none⟩ = some (.int .i64 yv) := by rw [HW7.out]; exact y1
      have y2d : W7.frozen? ⟨W2.heap.size, v, none⟩ = false := by rw [HW7.out]; exact y2
      clear HW7 hS0 y1 y2
      have hs7 := hg7.size
      have HF7 := Lib.hid (HF6.out.still hg7); clear HF6
      have O7 := Lib.hid (IntS.still O6.out hg7 (by omega)); clear O6
      have R7 := Lib.hid (IntS.still R6.out hg7 (by omega)); clear R6
      refine anyU_take (i := 0) (v := .slice (some ⟨W2.heap.size, 0, none⟩) N.ends.length N.ends.length) rfl (by kernel_rfl) (by kernel_rfl) (by kernel_rfl) (fun _ _ _ h => h) ⟨by rfl, fun w' hS' => (by obtain ⟨s1, s2, s3, s4, s5⟩ := hS'; go_simp)⟩ hS ?_
      simp only [List.getElem_toArray, List.getElem_cons_zero, Act.put, List.setIfInBounds_toArray, List.set_cons_zero, List.set_cons_succ]
      refine anyU_take (i := 1) (v := .int .i64 v) rfl (by kernel_rfl) (by kernel_rfl) (by kernel_rfl) (fun _ _ _ h => h) ⟨by rfl, fun w' hS' => (by obtain ⟨s1, s2, s3, s4, s5⟩ := hS'; go_simp)⟩ hS ?_
      simp only [List.getElem_toArray, List.getElem_cons_succ, List.getElem_cons_zero, Act.put, List.setIfInBounds_toArray, List.set_cons_zero, List.set_cons_succ]
      refine anyU_take (i := 2) (v := .agg #[.slice (some ⟨b1, o1, none⟩) N.ends.length c1, .slice A1' N.ids.length c1', .slice A1'' N.inputs.length c1'']) rfl (by kernel_rfl) (by kernel_rfl) (by kernel_rfl) (fun _ _ _ h => h) ⟨by rfl, fun w' hS' => (by obtain ⟨s1, s2, s3, s4, s5⟩ := hS'; go_simp)⟩ hS ?_
      simp only [List.getElem_toArray, List.getElem_cons_succ, List.getElem_cons_zero, Act.put, List.setIfInBounds_toArray, List.set_cons_zero, List.set_cons_succ]
      refine anyU_take (i := 3) (v := .int .i64 v) rfl (by kernel_rfl) (by kernel_rfl) (by kernel_rfl) (fun _ _ _ h => h) ⟨by rfl, fun w' hS' => (by obtain ⟨s1, s2, s3, s4, s5⟩ := hS'; go_simp)⟩ hS ?_
      simp only [List.getElem_toArray, List.getElem_cons_succ, List.getElem_cons_zero, Act.put, List.setIfInBounds_toArray, List.set_cons_zero, List.set_cons_succ]
      refine anyU_take (i := 4) (v := .slice (some ⟨W2.heap.size, 0, none⟩) N.ends.length N.ends.length) rfl (by kernel_rfl) (by kernel_rfl) (by kernel_rfl) (fun _ _ _ h => h) ⟨by rfl, fun w' hS' => (by obtain ⟨s1, s2, s3, s4, s5⟩ := hS'; go_simp)⟩ hS ?_
      simp only [List.getElem_toArray, List.getElem_cons_succ, List.getElem_cons_zero, Act.put, List.setIfInBounds_toArray, List.set_cons_zero, List.set_cons_succ]
      refine anyU_take (i := 5) (v := .int .i64 k) rfl (by kernel_rfl) (by kernel_rfl) (by kernel_rfl) (fun _ _ _ h => h) ⟨by rfl, fun w' hS' => (by obtain ⟨s1, s2, s3, s4, s5⟩ := hS'; go_simp)⟩ hS ?_
      simp only [List.getElem_toArray, List.getElem_cons_succ, List.getElem_cons_zero, Act.put, List.setIfInBounds_toArray, List.set_cons_zero, List.set_cons_succ]
      refine anyU_ready (rs := [6]) (by kernel_rfl) (by simp) ?_
      refine ReadyU.cons (i := 6) rfl (fun K hK => ?_) ReadyU.nil
      simp only [List.getElem_toArray, List.getElem_cons_succ, List.getElem_cons_zero]
      refine ite_is (by rfl) ?_
      simp [go_sem]
      refine (fewest_any _ N lo1 hi1 v _ l _ _ k _ (Net.turned N_3.out HF7.out (by omega) (by omega)) (by omega) O7.out (by omega) HG.out hv hlen hk1 hk2).mono ?_
      rintro e W8 ⟨rfl, hb8⟩
      have hg8 := grown_below hb8; clear hb8
      have hs8 := hg8.size
      have HF8 := Lib.hid (HF7.out.still hg8); clear HF7
      have O8 := Lib.hid (IntS.still O7.out hg8 (by omega)); clear O7
      have R8 := Lib.hid (IntS.still R7.out hg8 (by omega)); clear R7
      rw [HBC.out]
      have hSn : W8.cell? ⟨W2.heap.size + 1, 0, none⟩ = some (.slice (some ⟨W2.heap.size, 0, none⟩) N.ends.length N.ends.length) ∧ W8.cell? ⟨w.heap.size, 0, none⟩ = some (.slice (some ⟨b1, o1, none⟩) N.ends.length c1) ∧ W8.cell? ⟨w.heap.size, 1, none⟩ = some (.slice A1' N.ids.length c1') ∧ W8.cell? ⟨w.heap.size, 2, none⟩ = some (.slice A1'' N.inputs.length c1'') ∧ W8.cell? ⟨w.heap.size + 1, 0, none⟩ = some (.int .i64 k) := ⟨(HF8.out.boxN bxd.out (by omega)).cell 0 (by simp), (HF8.out.boxN bx1_3 (by omega)).cell 0 (by simp), (HF8.out.boxN bx1_3 (by omega)).cell 1 (by simp), (HF8.out.boxN bx1_3 (by omega)).cell 2 (by simp), (HF8.out.boxN bx2_3 (by omega)).cell 0 (by simp)⟩
      refine hK.out _ _ ⟨fun _ => hSn, ?_⟩
      clear hK K y1d y2d hS
      try simp only [List.getElem_toArray, List.getElem_cons_succ, List.getElem_cons_zero, Act.put, List.setIfInBounds_toArray, List.set_cons_zero, List.set_cons_succ]
      obtain ⟨y1e, y2e⟩ := O8.out.at0 (j := v) (by rw [hlen]; exact hv)
      rw [HYV.out] at y1e
      refine anyU_ready (rs := [7]) (by kernel_rfl) (by simp) ?_
      refine ReadyU.cons (i := 7) rfl (fun K hK => ?_) ReadyU.nil
      simp only [List.getElem_toArray, List.getElem_cons_succ, List.getElem_cons_zero]
      refine ite_is (by rfl) ?_
      simp [go_sem, hvi]
      refine hK.out _ _ ⟨fun _ => hSn, ?_⟩
      clear hK K
      try simp only [List.getElem_toArray, List.getElem_cons_succ, List.getElem_cons_zero, Act.put, List.setIfInBounds_toArray, List.set_cons_zero, List.set_cons_succ]
      refine anyU_ready (rs := [8]) (by kernel_rfl) (by simp) ?_
      refine ReadyU.cons (i := 8) rfl (fun K hK => ?_) ReadyU.nil
      simp only [List.getElem_toArray, List.getElem_cons_succ, List.getElem_cons_zero]
      refine ite_is (by rfl) ?_
      simp [go_sem, y1e, y2e]
      refine hK.out _ _ ⟨fun h => absurd h (by decide), ?_⟩
      clear hK K hSn
      try simp only [List.getElem_toArray, List.getElem_cons_succ, List.getElem_cons_zero, Act.put, List.setIfInBounds_toArray, List.set_cons_zero, List.set_cons_succ]
      have HS := Lib.hid (O8.out.set0 (j := v) (by rw [hlen]; exact hv) (bc : Int))
      have HFN := Lib.hid (HF8.out.grown (grown_set W8 ⟨W2.heap.size, v, none⟩ (.int .i64 bc)) fun g hg => .inl (by cases hg; exact ⟨Nat.le_refl _, by show W2.heap.size < _; omega⟩))
      refine anyU_done (by kernel_rfl) ?_ _
      have hpot2 := HT2.out.pot
      go_wp2_with fail
      go_roundw
      case rel => exact ⟨s + 1, _, by go_num, HS, by rw [← HBC.out]; exact HT2, by rw [size_setCell]; omega, HFN⟩
      case measure => simp [intOf]; omega

end Go.Proofs.Ytoebgfmnjjiddaa
