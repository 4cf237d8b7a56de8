/-
  Contracts: a port's partner, and the trail from a port on (program).
-/
import Derived.Test.YtpanigomfmfknaaGreatOwnE
import Derived.Test.YtpanigomfmfknaaGreatDrw
import Derived.Test.YtpanigomfmfknaaGreatOri4
import Derived.Test.YtpanigomfmfknaaGreatReg
namespace Go.Proofs.YtpanigomfmfknaaGreat
open Go.ChangeShapes Go.WideShapes Go.ChangeAt Go.RowKit
set_option linter.unusedVariables false

theorem ite_is {c : Prop} [Decidable c] {x y : Prop} (h : c) (k : x) : if c then x else y := by rw [if_pos h]; exact k
theorem xor1 {i : Nat} (h : i < 8) : bits .xor .i64 (i : Int) 1 = (fl i : Int) := by
  rcases (show i = 0 ∨ i = 1 ∨ i = 2 ∨ i = 3 ∨ i = 4 ∨ i = 5 ∨ i = 6 ∨ i = 7 by omega) with rfl | rfl | rfl | rfl | rfl | rfl | rfl | rfl <;> decide
theorem grown_set2 (w : World) (g a b : Nat) (u v : Value) : w.grownBy ((w.setCell ⟨g, a, none⟩ u).setCell ⟨g, b, none⟩ v) (some g) := grownBy_setCell (p := ⟨g, b, none⟩) (grown_set w ⟨g, a, none⟩ u) rfl v

set_option maxHeartbeats 4000000 in
set_option maxRecDepth 100000 in
theorem partner_any (v1 : Value) (N : NetD) (lo1 hi1 : Nat) (en ep : Nat) (w : World) (h1 : Net w lo1 hi1 v1 N) (hh1 : hi1 ≤ w.heap.size) (hg : N.good = true) (ho : okP N (en, ep)) :
    Calls Tryz.prog 44 #[v1, .agg #[.int .i64 (en : Nat), .int .i64 (ep : Nat)]] w fun e w' => e = .returned (.tuple #[.agg #[.int .i64 (en : Nat), .int .i64 (fl ep : Nat)], .bool (pairedB N (en, ep))]) ∧ Below w.heap.size w w' := by
  obtain ⟨n1, n40⟩ := good_n hg
  have HG := Lib.hid hg; clear hg
  obtain ⟨hen, hep⟩ := ho
  dsimp only at hen hep
  unfold degAt at hep
  have hd6 := good_deg HG.out hen
  have hfl := fl_le ep
  have hx := xor1 (show ep < 8 by omega)
  have F1 := Lib.hid h1
  obtain ⟨A1, c1, A1', c1', A1'', c1'', rfl, hc1, hd1, _⟩ := h1.parts
  obtain ⟨b1, o1, _, _, rfl, _⟩ := Net.rowAt F1.out (u := 0) (by omega)
  clear h1
  obtain ⟨WA, HWA⟩ : ∃ W, Hid (W = (((w.alloc (.cells #[.slice (some ⟨b1, o1, none⟩) N.ends.length c1, .slice A1' N.ids.length c1', .slice A1'' N.inputs.length c1''] 32)).alloc (.cells #[.int .i64 en, .int .i64 ep] 48)).alloc (.cells #[.int .i64 0, .int .i64 0] 48))) := ⟨_, Lib.hid rfl⟩
  have hbA : Below w.heap.size w WA := by rw [HWA.out]; exact ((((Below.refl _ _).alloc (Nat.le_refl _) _).alloc (by simp; try omega) _).alloc (by simp; try omega) _)
  have hsA : w.heap.size + 3 ≤ WA.heap.size := by rw [HWA.out]; simp; try omega
  have bx1 : BoxN WA (w.heap.size) #[.slice (some ⟨b1, o1, none⟩) N.ends.length c1, .slice A1' N.ids.length c1', .slice A1'' N.inputs.length c1''] 32 := by rw [HWA.out]; exact (((BoxN.new' _ _ _ (by simp)).still (grown_alloc _ _)).still (grown_alloc _ _))
  have bx2 : BoxN WA (w.heap.size + 1) #[.int .i64 en, .int .i64 ep] 48 := by rw [HWA.out]; exact ((BoxN.new' _ _ _ (by simp)).still (grown_alloc _ _))
  have bxx0 : BoxN WA (w.heap.size + 2) #[.int .i64 0, .int .i64 0] 48 := by rw [HWA.out]; exact (BoxN.new' _ _ _ (by simp))
  have G1 := Lib.hid (Net.below F1.out hbA hh1); clear F1
  go_enter Tryz.func44, Tryz.ntmps44
  go_upto_region 1 with (fail)
  rw [← HWA.out]; clear HWA
  have kbx2_0 : WA.cell? ⟨w.heap.size + 1, 0, none⟩ = some (.int .i64 en) := bx2.cell 0 (by simp)
  have kbx2_1 : WA.cell? ⟨w.heap.size + 1, 1, none⟩ = some (.int .i64 ep) := bx2.cell 1 (by simp)
  have kf := bx2.frozen 1
  go_upto_region 2 with (fail)
  refine nameC ?_
  intro W1 HW1
  have hg1 : WA.grownBy W1 (some (w.heap.size + 1)) := by rw [HW1.out]; exact grown_set _ _ _
  have hs1 := hg1.size
  have HF1 := Lib.hid ((Turned.refl (w.heap.size + 1) (w.heap.size + 2) WA).grown hg1 (fun g hg => .inl (by cases hg; omega)))
  have HB := Lib.hid (show BoxN W1 (w.heap.size + 1) #[.int .i64 en, .int .i64 (fl ep : Nat)] 48 by rw [HW1.out]; exact BoxN.set bx2 1 _)
  clear HW1 kbx2_0 kbx2_1 hx kf
  obtain ⟨AR, cR, hbR, qR, hcR, hdR, hRR⟩ := Net.rowIn G1.out hen
  replace qR := (HF1.out.cell (by omega) (by omega)).trans qR
  have RR := Lib.hid hRR; clear hRR
  obtain ⟨pb, HPB⟩ : ∃ b : Bool, Hid (decide (((fl ep : Nat) : Int) < ((nthL N.ends en).length : Nat)) = b) := ⟨_, Lib.hid rfl⟩
  have heni : (en : Int) < N.ends.length := by omega
  refine wp_region_U (fun w' => w'.cell? ⟨w.heap.size + 1, 0, none⟩ = some (.int .i64 en) ∧ w'.cell? ⟨w.heap.size + 1, 1, none⟩ = some (.int .i64 (fl ep : Nat)) ∧ w'.cell? ⟨w.heap.size, 0, none⟩ = some (.slice (some ⟨b1, o1, none⟩) N.ends.length c1) ∧ w'.cell? ⟨b1, o1 + en, none⟩ = some (.slice AR (nthL N.ends en).length cR)) [12] (by kernel_rfl) ?_
  refine nameU ?_
  intro W2 HW2
  have hg2 : W1.grownBy W2 none := by rw [HW2.out]; exact grown_drew _
  clear HW2
  have hs2 := hg2.size
  have HF2 := Lib.hid (HF1.out.still hg2); clear HF1
  have B22 := Lib.hid (BoxN.still HB.out hg2); clear HB
  have hS3 : W2.cell? ⟨w.heap.size + 1, 0, none⟩ = some (.int .i64 en) ∧ W2.cell? ⟨w.heap.size + 1, 1, none⟩ = some (.int .i64 (fl ep : Nat)) ∧ W2.cell? ⟨w.heap.size, 0, none⟩ = some (.slice (some ⟨b1, o1, none⟩) N.ends.length c1) ∧ W2.cell? ⟨b1, o1 + en, none⟩ = some (.slice AR (nthL N.ends en).length cR) := ⟨B22.out.cell 0 (by simp), B22.out.cell 1 (by simp), (HF2.out.boxN bx1 (by omega)).cell 0 (by simp), ((show W1.grownBy W2 none from hg2).cell qR (by simp))⟩
  refine anyU_take (i := 0) (v := .agg #[.int .i64 en, .int .i64 (fl ep : Nat)]) rfl (by kernel_rfl) (by kernel_rfl) (by kernel_rfl) (fun _ _ _ h => h) ⟨by rfl, fun w' hS' => (by obtain ⟨s1, s2, s3, s4⟩ := hS'; go_simp)⟩ hS3 ?_
  simp only [List.getElem_toArray, List.getElem_cons_zero, Act.put, List.setIfInBounds_toArray, List.set_cons_zero, List.set_cons_succ]
  refine anyU_take (i := 1) (v := .pointer (some ⟨w.heap.size + 1, 1, none⟩)) rfl (by kernel_rfl) (by kernel_rfl) (by kernel_rfl) (fun _ _ _ h => h) ⟨by rfl, fun w' hS' => (by obtain ⟨s1, s2, s3, s4⟩ := hS'; go_simp)⟩ hS3 ?_
  simp only [List.getElem_toArray, List.getElem_cons_succ, List.getElem_cons_zero, Act.put, List.setIfInBounds_toArray, List.set_cons_zero, List.set_cons_succ]
  refine anyU_take (i := 2) (v := .int .i64 (fl ep : Nat)) rfl (by kernel_rfl) (by kernel_rfl) (by kernel_rfl) (fun _ _ _ h => h) ⟨by rfl, fun w' hS' => (by obtain ⟨s1, s2, s3, s4⟩ := hS'; go_simp)⟩ hS3 ?_
  simp only [List.getElem_toArray, List.getElem_cons_succ, List.getElem_cons_zero, Act.put, List.setIfInBounds_toArray, List.set_cons_zero, List.set_cons_succ]
  refine anyU_take (i := 3) (v := .pointer (some ⟨w.heap.size, 0, none⟩)) rfl (by kernel_rfl) (by kernel_rfl) (by kernel_rfl) (fun _ _ _ h => h) ⟨by rfl, fun w' hS' => (by obtain ⟨s1, s2, s3, s4⟩ := hS'; go_simp)⟩ hS3 ?_
  simp only [List.getElem_toArray, List.getElem_cons_succ, List.getElem_cons_zero, Act.put, List.setIfInBounds_toArray, List.set_cons_zero, List.set_cons_succ]
  refine anyU_take (i := 4) (v := .slice (some ⟨b1, o1, none⟩) N.ends.length c1) rfl (by kernel_rfl) (by kernel_rfl) (by kernel_rfl) (fun _ _ _ h => h) ⟨by rfl, fun w' hS' => (by obtain ⟨s1, s2, s3, s4⟩ := hS'; go_simp)⟩ hS3 ?_
  simp only [List.getElem_toArray, List.getElem_cons_succ, List.getElem_cons_zero, Act.put, List.setIfInBounds_toArray, List.set_cons_zero, List.set_cons_succ]
  refine anyU_take (i := 5) (v := .pointer (some ⟨w.heap.size + 1, 0, none⟩)) rfl (by kernel_rfl) (by kernel_rfl) (by kernel_rfl) (fun _ _ _ h => h) ⟨by rfl, fun w' hS' => (by obtain ⟨s1, s2, s3, s4⟩ := hS'; go_simp)⟩ hS3 ?_
  simp only [List.getElem_toArray, List.getElem_cons_succ, List.getElem_cons_zero, Act.put, List.setIfInBounds_toArray, List.set_cons_zero, List.set_cons_succ]
  refine anyU_take (i := 6) (v := .int .i64 en) rfl (by kernel_rfl) (by kernel_rfl) (by kernel_rfl) (fun _ _ _ h => h) ⟨by rfl, fun w' hS' => (by obtain ⟨s1, s2, s3, s4⟩ := hS'; go_simp)⟩ hS3 ?_
  simp only [List.getElem_toArray, List.getElem_cons_succ, List.getElem_cons_zero, Act.put, List.setIfInBounds_toArray, List.set_cons_zero, List.set_cons_succ]
  refine anyU_take (i := 7) (v := .pointer (some ⟨b1, o1 + en, none⟩)) rfl (by kernel_rfl) (by kernel_rfl) (by kernel_rfl) (fun _ _ _ h => h) ⟨by rfl, fun w' hS' => (by obtain ⟨s1, s2, s3, s4⟩ := hS'; simp [go_sem, heni])⟩ hS3 ?_
  simp only [List.getElem_toArray, List.getElem_cons_succ, List.getElem_cons_zero, Act.put, List.setIfInBounds_toArray, List.set_cons_zero, List.set_cons_succ]
  refine anyU_take (i := 8) (v := .slice AR (nthL N.ends en).length cR) rfl (by kernel_rfl) (by kernel_rfl) (by kernel_rfl) (fun _ _ _ h => h) ⟨by rfl, fun w' hS' => (by obtain ⟨s1, s2, s3, s4⟩ := hS'; go_simp)⟩ hS3 ?_
  simp only [List.getElem_toArray, List.getElem_cons_succ, List.getElem_cons_zero, Act.put, List.setIfInBounds_toArray, List.set_cons_zero, List.set_cons_succ]
  refine anyU_take (i := 9) (v := .int .i64 ((nthL N.ends en).length : Nat)) rfl (by kernel_rfl) (by kernel_rfl) (by kernel_rfl) (fun _ _ _ h => h) ⟨by rfl, fun w' hS' => (by obtain ⟨s1, s2, s3, s4⟩ := hS'; go_simp)⟩ hS3 ?_
  simp only [List.getElem_toArray, List.getElem_cons_succ, List.getElem_cons_zero, Act.put, List.setIfInBounds_toArray, List.set_cons_zero, List.set_cons_succ]
  refine anyU_take (i := 10) (v := .bool pb) rfl (by kernel_rfl) (by kernel_rfl) (by kernel_rfl) (fun _ _ _ h => h) ⟨by rfl, fun w' hS' => (by obtain ⟨s1, s2, s3, s4⟩ := hS'; have hp := HPB.out; simp [go_sem, ← hp])⟩ hS3 ?_
  simp only [List.getElem_toArray, List.getElem_cons_succ, List.getElem_cons_zero, Act.put, List.setIfInBounds_toArray, List.set_cons_zero, List.set_cons_succ]
  have hr := HF2.out.boxN bxx0 (by omega)
  have r0 := hr.cell 0 (by simp)
  have r1 := hr.cell 1 (by simp)
  have f0 := hr.frozen 0
  have f1 := hr.frozen 1
  dsimp at r0 r1
  refine anyU_ready (rs := [11]) (by kernel_rfl) (by simp) ?_
  refine ReadyU.cons (i := 11) rfl (fun K hK => ?_) ReadyU.nil
  simp only [List.getElem_toArray, List.getElem_cons_succ, List.getElem_cons_zero]
  refine ite_is (by rfl) ?_
  simp [go_sem, r0, r1, f0, f1]
  refine hK.out _ _ ⟨fun _ => let ⟨s1, s2, s3, s4⟩ := hS3; let hg := grown_set2 _ (w.heap.size + 2) 0 1 _ _; ⟨hg.cell s1 (by simp <;> omega), hg.cell s2 (by simp <;> omega), hg.cell s3 (by simp <;> omega), hg.cell s4 (by simp <;> omega)⟩, ?_⟩
  clear hK K
  try simp only [List.getElem_toArray, List.getElem_cons_succ, List.getElem_cons_zero, Act.put, List.setIfInBounds_toArray, List.set_cons_zero, List.set_cons_succ]
  refine nameU ?_
  intro W4 HW4
  have hg4 : W2.grownBy W4 (some (w.heap.size + 2)) := by rw [HW4.out]; exact grown_set2 _ _ _ _ _ _
  have hz4 := hg4.size
  have HBR : BoxN W4 (w.heap.size + 2) #[.int .i64 en, .int .i64 (fl ep : Nat)] 48 := by rw [HW4.out]; exact (hr.set 0 _).set 1 _
  clear HW4 r0 r1 f0 f1 hr
  have q0 := HBR.cell 0 (by simp)
  have q1 := HBR.cell 1 (by simp)
  dsimp at q0 q1
  have hbl : Below w.heap.size w W4 := (HF2.out.below_of hbA (by omega) (by omega)).trans ⟨hg4.os, hg4.tape, hg4.output, hg4.size, fun k hk => hg4.block k (by omega) (by simp <;> omega)⟩
  refine anyU_ready (rs := [12]) (by kernel_rfl) (by simp) ?_
  refine ReadyU.cons (i := 12) rfl (fun K hK => ?_) ReadyU.nil
  simp only [List.getElem_toArray, List.getElem_cons_succ, List.getElem_cons_zero]
  refine ite_is (by rfl) ?_
  simp [go_sem]
  refine hK.out _ _ ⟨fun h => absurd h (by decide), ?_⟩
  clear hK K
  try simp only [List.getElem_toArray, List.getElem_cons_succ, List.getElem_cons_zero, Act.put, List.setIfInBounds_toArray, List.set_cons_zero, List.set_cons_succ]
  clear hS3
  refine anyU_done (by kernel_rfl) ?_ _
  go_wp2_with fail
  exact bodyPost_ret (v := .tuple #[.agg #[.int .i64 (en : Nat), .int .i64 (fl ep : Nat)], .bool pb]) (by simp [results, Tryz.results44, go_sem, q0, q1]) rfl ⟨by
    have hp := HPB.out
    unfold pairedB degAt
    rw [← hp]
    simp, hbl⟩

end Go.Proofs.YtpanigomfmfknaaGreat
