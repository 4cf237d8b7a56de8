/-
  Contracts of ForestOrientation (program and reference).
-/
import Derived.Test.YtapfighdnfmdcaaPeel2
import Derived.Test.YtapfighdnfmdcaaOri4
namespace Go.Proofs.Ytapfighdnfmdcaa
open Go.ChangeShapes Go.WideShapes Go.ChangeAt Go.RowKit
set_option linter.unusedVariables false

def forOut (N : NetD) (a : Int) : List (List Int) := if peelRes N a = true then orientAll N (fun v w => decide (nth (peelAll N a) w < nth (peelAll N a) v)) else []
theorem peelRes_good {N : NetD} {a : Int} (h : peelRes N a = true) : N.good = true := by
  unfold peelRes at h; rw [Bool.and_eq_true] at h; exact stubless_good h.1
theorem forOut_cnt (N : NetD) (a : Int) : cntSS (forOut N a) ≤ N.cnt := by
  unfold forOut
  split
  · rename_i h
    rw [(orientAll_shape (peelRes_good h) _).cnt]
    unfold NetD.cnt; omega
  · show 0 ≤ _; omega
theorem peelOut_yes {N : NetD} {a : Int} (h : peelRes N a = true) : peelOut N a = peelAll N a := by unfold peelOut; rw [h]; rfl
set_option maxHeartbeats 4000000 in
theorem forO1_any (x y g : Nat) (A : Option Addr) (c : Nat) (l : List Int) (lo hi : Nat) (w : World) (hbx : BoxN w g #[.slice A l.length c] 23) (hL : IntS w lo hi (.slice A l.length c) l) (hx : x < l.length) (hy : y < l.length) :
    Calls Try.prog 95 #[.int .i64 x, .int .i64 y, .pointer (some ⟨g, 0, none⟩)] w fun e w' => e = .returned (.bool (decide (nth l y < nth l x))) ∧ Below w.heap.size w w' := by
  have k1 : w.cell? ⟨g, 0, none⟩ = some (.slice A l.length c) := hbx.cell 0 (by simp)
  obtain ⟨b, o, rfl, _, _, x1, _⟩ := hL.opened hx
  have x2 := (hL.at_ hy).1
  have i1 : (x : Int) < l.length := by omega
  have i2 : (y : Int) < l.length := by omega
  obtain ⟨p1, H1⟩ : ∃ s, Hid (nth l x = s) := ⟨_, Lib.hid rfl⟩
  obtain ⟨p2, H2⟩ : ∃ s, Hid (nth l y = s) := ⟨_, Lib.hid rfl⟩
  rw [H1.out] at x1
  rw [H2.out] at x2
  clear hL hbx
  go_enter Try.func95, Try.ntmps95
  go_upto_region 1 with (fail)
  go_quiet (fail)
  go_wp2_with fail
  go_ret
  exact ⟨ret_bool (by rw [H1.out, H2.out]), below_drewN (Below.refl _ _) _⟩

set_option maxHeartbeats 4000000 in
set_option maxRecDepth 100000 in
theorem ForestOrientation_impl (v1 : Value) (N : NetD) (lo1 hi1 : Nat) (a : Int) (w : World) (h1 : Net w lo1 hi1 v1 N) (hh1 : hi1 ≤ w.heap.size) (hz1 : N.sz ≤ 1048576) (ok1 : N.Ok) (ok2 : I64 a) :
    Calls Try.prog 49 #[v1, .int .i64 a] w fun e w' => ∃ r, e = .returned (.tuple #[r, .bool (peelRes N a)]) ∧ IntSSx w' w.heap.size w'.heap.size r (forOut N a) ∧ Below w.heap.size w w' := by
  have F1 := Lib.hid h1
  obtain ⟨A1, c1, A1', c1', A1'', c1'', rfl, hc1, hd1, _⟩ := h1.parts
  clear h1
  obtain ⟨WA, HWA⟩ : ∃ W, Hid (W = (w.alloc (.cells #[.slice A1 N.ends.length c1, .slice A1' N.ids.length c1', .slice A1'' N.inputs.length c1''] 31))) := ⟨_, Lib.hid rfl⟩
  have hbA : Below w.heap.size w WA := by rw [HWA.out]; exact ((Below.refl _ _).alloc (Nat.le_refl _) _)
  have hsA : w.heap.size + 1 ≤ WA.heap.size := by rw [HWA.out]; simp; try omega
  have bx1 : BoxN WA (w.heap.size) #[.slice A1 N.ends.length c1, .slice A1' N.ids.length c1', .slice A1'' N.inputs.length c1''] 31 := by rw [HWA.out]; exact (BoxN.new' _ _ _ (by simp))
  have G1 := Lib.hid (Net.below F1.out hbA hh1); clear F1
  go_enter Try.func49, Try.ntmps49
  go_upto_region 1 with (fail)
  rw [← HWA.out]; clear HWA
  have kbx1_0 : WA.cell? ⟨w.heap.size, 0, none⟩ = some (.slice A1 N.ends.length c1) := bx1.cell 0 (by simp)
  have kbx1_1 : WA.cell? ⟨w.heap.size, 1, none⟩ = some (.slice A1' N.ids.length c1') := bx1.cell 1 (by simp)
  have kbx1_2 : WA.cell? ⟨w.heap.size, 2, none⟩ = some (.slice A1'' N.inputs.length c1'') := bx1.cell 2 (by simp)
  go_wp2_with fail
  clear kbx1_0 kbx1_1 kbx1_2
  refine (PeelLayers_impl _ N lo1 hi1 a _ G1.out (by omega) hz1 ok1 ok2).mono ?_
  rintro e W1 ⟨r, rfl, hr, hb1⟩
  have hg1 := grown_below hb1; clear hb1
  have hs1 := hg1.size
  have HF1 := Lib.hid ((Turned.refl WA.heap.size WA.heap.size WA).still hg1)
  have R1 := Lib.hid hr; clear hr
  obtain ⟨Ar, cr, rfl, hcr, hdr⟩ := R1.out.dims
  go_upto_region 2 with (fail)
  refine nameC ?_
  intro W2 HW2
  have hg2 : W1.grownBy W2 none := by rw [HW2.out]; exact grown_alloc _ _
  have hs2 := hg2.size
  have HF2 := Lib.hid (HF1.out.still hg2); clear HF1
  have R2 := Lib.hid (IntS.still R1.out hg2 (by omega)); clear R1
  have bxl2 := Lib.hid (show BoxN W2 W1.heap.size #[.slice Ar (peelOut N a).length cr] 23 by rw [HW2.out]; exact BoxN.new _ _ _)
  clear HW2
  cases hok : peelRes N a with
  | false =>
    have HOK := Lib.hid hok; clear hok
    go_wp2_with fail
    go_ret2
    exact ⟨_, ret_vb HOK.out.symm, by unfold forOut; rw [HOK.out]; exact SSx.nil _ _ _, (HF2.out.below_of hbA (by omega) (by omega))⟩
  | true =>
    have HOK := Lib.hid hok; clear hok
    have HG := Lib.hid (peelRes_good HOK.out)
    obtain ⟨n1, n40⟩ := good_n HG.out
    have HPO := Lib.hid (peelOut_yes HOK.out)
    have hpl := peelAll_len N a
    have kbx1_0 : W2.cell? ⟨w.heap.size, 0, none⟩ = some (.slice A1 N.ends.length c1) := (HF2.out.boxN bx1 (by omega)).cell 0 (by simp)
    have kbx1_1 : W2.cell? ⟨w.heap.size, 1, none⟩ = some (.slice A1' N.ids.length c1') := (HF2.out.boxN bx1 (by omega)).cell 1 (by simp)
    have kbx1_2 : W2.cell? ⟨w.heap.size, 2, none⟩ = some (.slice A1'' N.inputs.length c1'') := (HF2.out.boxN bx1 (by omega)).cell 2 (by simp)
    have hmf : ∀ (fn : Fn) (first cap : Array Value) (w : World), (Instr.makeFunc fn first cap).run Try.prog w = .ok (.func fn first cap) w := fun _ _ _ _ => rfl
    go_wp2_with fail
    clear kbx1_0 kbx1_1 kbx1_2
    have r1x := Lib.hid R2.out
    have b1x := Lib.hid bxl2.out
    rw [HPO.out] at r1x b1x
    have hws := HF2.out.size
    have hbl := b1x.out.lt
    refine (orientBy_any _ N lo1 hi1 95 #[.pointer (some ⟨W1.heap.size, 0, none⟩)] _ (Net.turned G1.out HF2.out (by omega) (by omega)) (by omega) HG.out (enters_of Try.func95 (by kernel_rfl) rfl) (fun v w => decide (nth (peelAll N a) w < nth (peelAll N a) v)) (fun x y hx hy W hW => forO1_any x y W1.heap.size _ _ (peelAll N a) _ _ W (b1x.out.below hW hbl) (r1x.out.below hW (by omega)) (by omega) (by omega))).mono ?_
    rintro e W3 ⟨r, rfl, hr, hb3⟩
    have hg3 := grown_below hb3; clear hb3
    have hs3 := hg3.size
    have HF3 := Lib.hid (HF2.out.still hg3); clear HF2
    have R3 := Lib.hid (IntS.still R2.out hg3 (by omega)); clear R2
    have bxl3 := Lib.hid (BoxN.still bxl2.out hg3); clear bxl2
    have O3 := Lib.hid hr; clear hr
    obtain ⟨Ao, co, rfl, hco, hdo⟩ := ISSx.dims O3.out
    go_wp2_with fail
    go_ret2
    refine ⟨_, ret_vb HOK.out.symm, ?_, (HF3.out.below_of hbA (by omega) (by omega))⟩
    unfold forOut
    rw [HOK.out, if_pos rfl]
    exact ISSx.mono O3.out (by omega) (by omega)

set_option maxHeartbeats 4000000 in
set_option maxRecDepth 100000 in
theorem ForestOrientation_spec (v1 : Value) (N : NetD) (lo1 hi1 : Nat) (a : Int) (w : World) (h1 : Net w lo1 hi1 v1 N) (hh1 : hi1 ≤ w.heap.size) (hz1 : N.sz ≤ 1048576) (ok1 : N.Ok) (ok2 : I64 a) :
    Calls Try.prog 48 #[v1, .int .i64 a] w fun e w' => ∃ r, e = .returned (.tuple #[r, .bool (peelRes N a)]) ∧ IntSSx w' w.heap.size w'.heap.size r (forOut N a) ∧ Below w.heap.size w w' := by
  have F1 := Lib.hid h1
  obtain ⟨A1, c1, A1', c1', A1'', c1'', rfl, hc1, hd1, _⟩ := h1.parts
  clear h1
  obtain ⟨WA, HWA⟩ : ∃ W, Hid (W = (w.alloc (.cells #[.slice A1 N.ends.length c1, .slice A1' N.ids.length c1', .slice A1'' N.inputs.length c1''] 31))) := ⟨_, Lib.hid rfl⟩
  have hbA : Below w.heap.size w WA := by rw [HWA.out]; exact ((Below.refl _ _).alloc (Nat.le_refl _) _)
  have hsA : w.heap.size + 1 ≤ WA.heap.size := by rw [HWA.out]; simp; try omega
  have bx1 : BoxN WA (w.heap.size) #[.slice A1 N.ends.length c1, .slice A1' N.ids.length c1', .slice A1'' N.inputs.length c1''] 31 := by rw [HWA.out]; exact (BoxN.new' _ _ _ (by simp))
  have G1 := Lib.hid (Net.below F1.out hbA hh1); clear F1
  go_enter Try.func48, Try.ntmps48
  go_upto_region 1 with (fail)
  rw [← HWA.out]; clear HWA
  have kbx1_0 : WA.cell? ⟨w.heap.size, 0, none⟩ = some (.slice A1 N.ends.length c1) := bx1.cell 0 (by simp)
  have kbx1_1 : WA.cell? ⟨w.heap.size, 1, none⟩ = some (.slice A1' N.ids.length c1') := bx1.cell 1 (by simp)
  have kbx1_2 : WA.cell? ⟨w.heap.size, 2, none⟩ = some (.slice A1'' N.inputs.length c1'') := bx1.cell 2 (by simp)
  go_wp2_with fail
  clear kbx1_0 kbx1_1 kbx1_2
  refine (PeelLayers_spec _ N lo1 hi1 a _ G1.out (by omega) hz1 ok1 ok2).mono ?_
  rintro e W1 ⟨r, rfl, hr, hb1⟩
  have hg1 := grown_below hb1; clear hb1
  have hs1 := hg1.size
  have HF1 := Lib.hid ((Turned.refl WA.heap.size WA.heap.size WA).still hg1)
  have R1 := Lib.hid hr; clear hr
  obtain ⟨Ar, cr, rfl, hcr, hdr⟩ := R1.out.dims
  cases hok : peelRes N a with
  | false =>
    have HOK := Lib.hid hok; clear hok
    go_wp2_with fail
    go_ret2
    exact ⟨_, ret_vb HOK.out.symm, by unfold forOut; rw [HOK.out]; exact SSx.nil _ _ _, (HF1.out.below_of hbA (by omega) (by omega))⟩
  | true =>
    have HOK := Lib.hid hok; clear hok
    have HG := Lib.hid (peelRes_good HOK.out)
    obtain ⟨n1, n40⟩ := good_n HG.out
    have HPO := Lib.hid (peelOut_yes HOK.out)
    have hpl := peelAll_len N a
    have kbx1_0 : W1.cell? ⟨w.heap.size, 0, none⟩ = some (.slice A1 N.ends.length c1) := (HF1.out.boxN bx1 (by omega)).cell 0 (by simp)
    have kbx1_1 : W1.cell? ⟨w.heap.size, 1, none⟩ = some (.slice A1' N.ids.length c1') := (HF1.out.boxN bx1 (by omega)).cell 1 (by simp)
    have kbx1_2 : W1.cell? ⟨w.heap.size, 2, none⟩ = some (.slice A1'' N.inputs.length c1'') := (HF1.out.boxN bx1 (by omega)).cell 2 (by simp)
    go_wp2_with fail
    clear kbx1_0 kbx1_1 kbx1_2
    have r1x := Lib.hid R1.out
    rw [HPO.out] at r1x ⊢
    refine (orBy_any _ N lo1 hi1 _ (peelAll N a) _ _ _ (Net.turned G1.out HF1.out (by omega) (by omega)) (by omega) r1x.out (by omega) HG.out (peelAll_len N a)).mono ?_
    rintro e W2 ⟨r, rfl, hr, hb2⟩
    have hg2 := grown_below hb2; clear hb2
    have hs2 := hg2.size
    have HF2 := Lib.hid (HF1.out.still hg2); clear HF1
    have R2 := Lib.hid (IntS.still R1.out hg2 (by omega)); clear R1
    have O2 := Lib.hid hr; clear hr
    obtain ⟨Ao, co, rfl, hco, hdo⟩ := ISSx.dims O2.out
    go_wp2_with fail
    go_ret2
    refine ⟨_, ret_vb HOK.out.symm, ?_, (HF2.out.below_of hbA (by omega) (by omega))⟩
    unfold forOut
    rw [HOK.out, if_pos rfl]
    exact ISSx.mono O2.out (by omega) (by omega)

end Go.Proofs.Ytapfighdnfmdcaa
