/-
  Contracts: a wave through a network (the reference).
-/
import Derived.Test.YtoebgfmnjjiddaaWaveQ
import Derived.Test.YtoebgfmnjjiddaaReg
import Derived.Test.YtoebgfmnjjiddaaExt
import Derived.Test.YtoebgfmnjjiddaaIsNet
import Derived.Test.YtoebgfmnjjiddaaPut
import Derived.Test.YtoebgfmnjjiddaaBasics
namespace Go.Proofs.Ytoebgfmnjjiddaa
open Go.ChangeShapes Go.WideShapes Go.ChangeAt Go.RowKit
set_option linter.unusedVariables false

set_option maxHeartbeats 1000000 in
theorem l1Own_any (v : Value) (zs : List Int) (lo hi : Nat) (w : World) (h : IntS w lo hi v zs) (hhi : hi ≤ w.heap.size) (h0 : 0 < zs.length) (hl : zs.length ≤ 1048576) :
    Calls Try.prog 68 #[v] w fun e w' => ∃ r, e = .returned r ∧ IntS w' w.heap.size w'.heap.size r zs ∧ Below w.heap.size w w' := by
  have F := Lib.hid h
  obtain ⟨A, c, rfl, hc, hd⟩ := h.dims
  obtain ⟨b, off, rfl, _, hb, _, _⟩ := h.opened (j := 0) h0
  have HE := Lib.hid (OwnI.empty w w.heap.size 3 rfl (Nat.le_refl _))
  have HC := Lib.hid (show ∀ j, j < zs.length → (w.alloc (.cells #[] 3)).cell? ⟨b, off + j, none⟩ = some (.int .i64 (nth zs j)) from fun j hj => (IntS.at_ (F.out.alloc hhi _) hj).1)
  clear h
  go_enter Try.func68, Try.ntmps68
  go_wp2_with (at_builtin; refine append_ints (s := .tmp 3) Try.underlying23 Try.info3 (by decide) (w.alloc (.cells #[] 3)) rfl (.tmp 4) rfl HE.out rfl (g := b) (off := off) zs rfl rfl HC.out (by simp; omega) (by simp) ?_; intro v1 w1 ho1 hg1; have HO := Lib.hid ho1; have HG1 := Lib.hid hg1; clear ho1 hg1)
  go_ret
  refine ⟨_, rfl, ?_, ?_⟩
  · have := HO.out.ints; simpa using this
  · exact ((Below.refl _ _).alloc (Nat.le_refl _) _).grown HG1.out (by simp) (fun g hg => by have := HE.out.lt g hg; omega)

set_option maxHeartbeats 1000000 in
set_option maxRecDepth 100000 in
theorem neNode_any (v1 : Value) (N : NetD) (lo1 hi1 : Nat) (x : Int) (w : World) (h1 : Net w lo1 hi1 v1 N) (hh1 : hi1 ≤ w.heap.size) (hz1 : N.sz ≤ 1048576) :
    Calls Try.prog 109 #[v1, .int .i64 x] w fun e w' => e = .returned (.bool (waveOk N x)) ∧ Below w.heap.size w w' := by
  have F1 := Lib.hid h1
  obtain ⟨A1, c1, A1', c1', A1'', c1'', rfl, hc1, hd1, _⟩ := h1.parts
  clear h1
  obtain ⟨WA, HWA⟩ : ∃ W, Hid (W = (w.alloc (.cells #[.slice A1 N.ends.length c1, .slice A1' N.ids.length c1', .slice A1'' N.inputs.length c1''] 33))) := ⟨_, Lib.hid rfl⟩
  have hbA : Below w.heap.size w WA := by rw [HWA.out]; exact ((Below.refl _ _).alloc (Nat.le_refl _) _)
  have hsA : w.heap.size + 1 ≤ WA.heap.size := by rw [HWA.out]; simp; try omega
  have bx1 : BoxN WA (w.heap.size) #[.slice A1 N.ends.length c1, .slice A1' N.ids.length c1', .slice A1'' N.inputs.length c1''] 33 := by rw [HWA.out]; exact (BoxN.new' _ _ _ (by simp))
  have G1 := Lib.hid (Net.below F1.out hbA hh1); clear F1
  go_enter Try.func109, Try.ntmps109
  go_upto_region 1 with (fail)
  rw [← HWA.out]; clear HWA
  have kbx1_0 : WA.cell? ⟨w.heap.size, 0, none⟩ = some (.slice A1 N.ends.length c1) := bx1.cell 0 (by simp)
  have kbx1_1 : WA.cell? ⟨w.heap.size, 1, none⟩ = some (.slice A1' N.ids.length c1') := bx1.cell 1 (by simp)
  have kbx1_2 : WA.cell? ⟨w.heap.size, 2, none⟩ = some (.slice A1'' N.inputs.length c1'') := bx1.cell 2 (by simp)
  go_wp2_with fail
  clear kbx1_0 kbx1_1 kbx1_2
  refine (neGood_any _ N lo1 hi1 _ G1.out (by omega) hz1).mono ?_
  rintro e W1 ⟨rfl, hb1⟩
  have hg1 := grown_below hb1; clear hb1
  have hs1 := hg1.size
  have HF1 := Lib.hid ((Turned.refl WA.heap.size WA.heap.size WA).still hg1)
  by_cases hg : N.good = true
  case neg =>
    have hg' : N.good = false := by simpa using hg
    rw [hg']
    have HG := Lib.hid hg'; clear hg hg'
    go_wp2_with fail
    go_ret
    exact ⟨ret_bool (by unfold waveOk; rw [HG.out]; rfl), (HF1.out.below_of hbA (by omega) (by omega))⟩
  rw [hg]
  have HG := Lib.hid hg; clear hg
  obtain ⟨n1, n40⟩ := good_n HG.out
  have kbx1_0 : W1.cell? ⟨w.heap.size, 0, none⟩ = some (.slice A1 N.ends.length c1) := (HF1.out.boxN bx1 (by omega)).cell 0 (by simp)
  have kbx1_1 : W1.cell? ⟨w.heap.size, 1, none⟩ = some (.slice A1' N.ids.length c1') := (HF1.out.boxN bx1 (by omega)).cell 1 (by simp)
  have kbx1_2 : W1.cell? ⟨w.heap.size, 2, none⟩ = some (.slice A1'' N.inputs.length c1'') := (HF1.out.boxN bx1 (by omega)).cell 2 (by simp)
  go_wp2_with (go_at_call 100; refine (l1In_any _ _ _ _).mono ?_; rintro e w' ⟨rfl, rfl⟩)
  go_ret
  exact ⟨ret_bool (by unfold waveOk; rw [HG.out]; rfl), (HF1.out.below_of hbA (by omega) (by omega))⟩

set_option maxHeartbeats 1000000 in
set_option maxRecDepth 100000 in
theorem biWave_any (v1 : Value) (N : NetD) (lo1 hi1 : Nat) (root : Nat) (w : World) (h1 : Net w lo1 hi1 v1 N) (hh1 : hi1 ≤ w.heap.size) (hg : N.good = true) (hroot : root < N.ends.length) :
    Calls Try.prog 110 #[v1, .int .i64 (root : Nat)] w fun e w' => ∃ r r2 m, e = .returned (.tuple #[r, r2, .int .i64 ((wave N root).msg : Nat)]) ∧ w.heap.size ≤ m ∧ m ≤ w'.heap.size ∧ IntS w' w.heap.size m r ((wave N root).par) ∧ IntS w' m w'.heap.size r2 ((wave N root).dep) ∧ Below w.heap.size w w' := by
  obtain ⟨n1, n40⟩ := good_n hg
  have HG := Lib.hid hg; clear hg
  have hrooti : (root : Int) < N.ends.length := by omega
  have F1 := Lib.hid h1
  obtain ⟨A1, c1, A1', c1', A1'', c1'', rfl, hc1, hd1, _⟩ := h1.parts
  obtain ⟨b1, o1, _, _, rfl, _⟩ := Net.rowAt F1.out (u := 0) (by omega)
  clear h1
  obtain ⟨WA, HWA⟩ : ∃ W, Hid (W = (w.alloc (.cells #[.slice (some ⟨b1, o1, none⟩) N.ends.length c1, .slice A1' N.ids.length c1', .slice A1'' N.inputs.length c1''] 33))) := ⟨_, Lib.hid rfl⟩
  have hbA : Below w.heap.size w WA := by rw [HWA.out]; exact ((Below.refl _ _).alloc (Nat.le_refl _) _)
  have hsA : w.heap.size + 1 ≤ WA.heap.size := by rw [HWA.out]; simp; try omega
  have bx1 : BoxN WA (w.heap.size) #[.slice (some ⟨b1, o1, none⟩) N.ends.length c1, .slice A1' N.ids.length c1', .slice A1'' N.inputs.length c1''] 33 := by rw [HWA.out]; exact (BoxN.new' _ _ _ (by simp))
  have G1 := Lib.hid (Net.below F1.out hbA hh1); clear F1
  go_enter Try.func110, Try.ntmps110
  go_upto_region 1 with (fail)
  rw [← HWA.out]; clear HWA
  refine wp_region_U (fun w' => w'.cell? ⟨w.heap.size, 0, none⟩ = some (.slice (some ⟨b1, o1, none⟩) N.ends.length c1) ∧ w'.cell? ⟨w.heap.size, 1, none⟩ = some (.slice A1' N.ids.length c1') ∧ w'.cell? ⟨w.heap.size, 2, none⟩ = some (.slice A1'' N.inputs.length c1'')) [] (by kernel_rfl) ?_
  refine nameU ?_
  intro W1 HW1
  have hg1 : WA.grownBy W1 none := by rw [HW1.out]; exact grown_drew _
  clear HW1
  have hs1 := hg1.size
  have HF1 := Lib.hid ((Turned.refl WA.heap.size WA.heap.size WA).still hg1)
  have hS2 : W1.cell? ⟨w.heap.size, 0, none⟩ = some (.slice (some ⟨b1, o1, none⟩) N.ends.length c1) ∧ W1.cell? ⟨w.heap.size, 1, none⟩ = some (.slice A1' N.ids.length c1') ∧ W1.cell? ⟨w.heap.size, 2, none⟩ = some (.slice A1'' N.inputs.length c1'') := ⟨(HF1.out.boxN bx1 (by omega)).cell 0 (by simp), (HF1.out.boxN bx1 (by omega)).cell 1 (by simp), (HF1.out.boxN bx1 (by omega)).cell 2 (by simp)⟩
  refine anyU_take (i := 0) (v := .pointer (some ⟨w.heap.size, 0, none⟩)) rfl (by kernel_rfl) (by kernel_rfl) (by kernel_rfl) (fun _ _ _ h => h) ⟨by rfl, fun w' hS' => (by obtain ⟨s1, s2, s3⟩ := hS'; go_simp)⟩ hS2 ?_
  simp only [List.getElem_toArray, List.getElem_cons_zero, Act.put, List.setIfInBounds_toArray, List.set_cons_zero, List.set_cons_succ]
  refine anyU_take (i := 1) (v := .slice (some ⟨b1, o1, none⟩) N.ends.length c1) rfl (by kernel_rfl) (by kernel_rfl) (by kernel_rfl) (fun _ _ _ h => h) ⟨by rfl, fun w' hS' => (by obtain ⟨s1, s2, s3⟩ := hS'; go_simp)⟩ hS2 ?_
  simp only [List.getElem_toArray, List.getElem_cons_succ, List.getElem_cons_zero, Act.put, List.setIfInBounds_toArray, List.set_cons_zero, List.set_cons_succ]
  refine anyU_take (i := 2) (v := .int .i64 N.ends.length) rfl (by kernel_rfl) (by kernel_rfl) (by kernel_rfl) (fun _ _ _ h => h) ⟨by rfl, fun w' hS' => (by obtain ⟨s1, s2, s3⟩ := hS'; go_simp)⟩ hS2 ?_
  simp only [List.getElem_toArray, List.getElem_cons_succ, List.getElem_cons_zero, Act.put, List.setIfInBounds_toArray, List.set_cons_zero, List.set_cons_succ]
  refine anyU_take (i := 4) (v := .pointer (some ⟨w.heap.size, 0, none⟩)) rfl (by kernel_rfl) (by kernel_rfl) (by kernel_rfl) (fun _ _ _ h => h) ⟨by rfl, fun w' hS' => (by obtain ⟨s1, s2, s3⟩ := hS'; go_simp)⟩ hS2 ?_
  simp only [List.getElem_toArray, List.getElem_cons_succ, List.getElem_cons_zero, Act.put, List.setIfInBounds_toArray, List.set_cons_zero, List.set_cons_succ]
  refine anyU_take (i := 5) (v := .slice (some ⟨b1, o1, none⟩) N.ends.length c1) rfl (by kernel_rfl) (by kernel_rfl) (by kernel_rfl) (fun _ _ _ h => h) ⟨by rfl, fun w' hS' => (by obtain ⟨s1, s2, s3⟩ := hS'; go_simp)⟩ hS2 ?_
  simp only [List.getElem_toArray, List.getElem_cons_succ, List.getElem_cons_zero, Act.put, List.setIfInBounds_toArray, List.set_cons_zero, List.set_cons_succ]
  refine anyU_take (i := 6) (v := .int .i64 N.ends.length) rfl (by kernel_rfl) (by kernel_rfl) (by kernel_rfl) (fun _ _ _ h => h) ⟨by rfl, fun w' hS' => (by obtain ⟨s1, s2, s3⟩ := hS'; go_simp)⟩ hS2 ?_
  simp only [List.getElem_toArray, List.getElem_cons_succ, List.getElem_cons_zero, Act.put, List.setIfInBounds_toArray, List.set_cons_zero, List.set_cons_succ]
  refine anyU_ready (rs := [3]) (by kernel_rfl) (by simp) ?_
  refine ReadyU.cons (i := 3) rfl (fun K hK => ?_) ReadyU.nil
  simp only [List.getElem_toArray, List.getElem_cons_succ, List.getElem_cons_zero]
  refine ite_is (by rfl) ?_
  simp [go_sem]
  refine (roFree_any N.ends.length _ (by omega)).mono ?_
  rintro e W3 ⟨rp, rfl, hrp, hb3⟩
  have hg3 := grown_below hb3; clear hb3
  have hs3 := hg3.size
  have HF3 := Lib.hid (HF1.out.still hg3); clear HF1
  have P3 := Lib.hid hrp; clear hrp
  have hS4 : W3.cell? ⟨w.heap.size, 0, none⟩ = some (.slice (some ⟨b1, o1, none⟩) N.ends.length c1) ∧ W3.cell? ⟨w.heap.size, 1, none⟩ = some (.slice A1' N.ids.length c1') ∧ W3.cell? ⟨w.heap.size, 2, none⟩ = some (.slice A1'' N.inputs.length c1'') := ⟨(HF3.out.boxN bx1 (by omega)).cell 0 (by simp), (HF3.out.boxN bx1 (by omega)).cell 1 (by simp), (HF3.out.boxN bx1 (by omega)).cell 2 (by simp)⟩
  refine hK.out _ _ ⟨fun _ => hS4, ?_⟩
  clear hK K hS2
  try simp only [List.getElem_toArray, List.getElem_cons_succ, List.getElem_cons_zero, Act.put, List.setIfInBounds_toArray, List.set_cons_zero, List.set_cons_succ]
  refine anyU_ready (rs := [7]) (by kernel_rfl) (by simp) ?_
  refine ReadyU.cons (i := 7) rfl (fun K hK => ?_) ReadyU.nil
  simp only [List.getElem_toArray, List.getElem_cons_succ, List.getElem_cons_zero]
  refine ite_is (by rfl) ?_
  simp [go_sem]
  refine (roFree_any N.ends.length _ (by omega)).mono ?_
  rintro e W5 ⟨rd, rfl, hrd, hb5⟩
  have hg5 := grown_below hb5; clear hb5
  have hs5 := hg5.size
  have HF5 := Lib.hid (HF3.out.still hg5); clear HF3
  have P5 := Lib.hid (IntS.still P3.out hg5 (by omega)); clear P3
  have D5 := Lib.hid hrd; clear hrd
  have hS6 : W5.cell? ⟨w.heap.size, 0, none⟩ = some (.slice (some ⟨b1, o1, none⟩) N.ends.length c1) ∧ W5.cell? ⟨w.heap.size, 1, none⟩ = some (.slice A1' N.ids.length c1') ∧ W5.cell? ⟨w.heap.size, 2, none⟩ = some (.slice A1'' N.inputs.length c1'') := ⟨(HF5.out.boxN bx1 (by omega)).cell 0 (by simp), (HF5.out.boxN bx1 (by omega)).cell 1 (by simp), (HF5.out.boxN bx1 (by omega)).cell 2 (by simp)⟩
  refine hK.out _ _ ⟨fun _ => hS6, ?_⟩
  clear hK K hS4
  try simp only [List.getElem_toArray, List.getElem_cons_succ, List.getElem_cons_zero, Act.put, List.setIfInBounds_toArray, List.set_cons_zero, List.set_cons_succ]
  refine anyU_ready (rs := [8]) (by kernel_rfl) (by simp) ?_
  refine ReadyU.cons (i := 8) rfl (fun K hK => ?_) ReadyU.nil
  simp only [List.getElem_toArray, List.getElem_cons_succ, List.getElem_cons_zero]
  refine ite_is (by rfl) ?_
  simp [go_sem]
  refine hK.out _ _ ⟨fun _ => hS6, ?_⟩
  clear hK K
  try simp only [List.getElem_toArray, List.getElem_cons_succ, List.getElem_cons_zero, Act.put, List.setIfInBounds_toArray, List.set_cons_zero, List.set_cons_succ]
  refine anyU_ready (rs := [9]) (by kernel_rfl) (by simp) ?_
  refine ReadyU.cons (i := 9) rfl (fun K hK => ?_) ReadyU.nil
  simp only [List.getElem_toArray, List.getElem_cons_succ, List.getElem_cons_zero]
  refine ite_is (by rfl) ?_
  simp [go_sem]
  refine hK.out _ _ ⟨fun _ => hS6, ?_⟩
  clear hK K
  try simp only [List.getElem_toArray, List.getElem_cons_succ, List.getElem_cons_zero, Act.put, List.setIfInBounds_toArray, List.set_cons_zero, List.set_cons_succ]
  clear hS6
  refine anyU_done (by kernel_rfl) ?_ _
  obtain ⟨Ap, cp, rfl, hcp, hdp⟩ := P5.out.dims
  obtain ⟨bp, op, rfl, lbp, hbp, _, _⟩ := IntS.opened P5.out (j := 0) (by simp; omega)
  obtain ⟨Ad, cd, rfl, hcd, hdd⟩ := D5.out.dims
  obtain ⟨bd, od, rfl, lbd, hbd, _, _⟩ := IntS.opened D5.out (j := 0) (by simp; omega)
  rw [List.length_replicate] at hcp hcd
  simp only [List.length_replicate] at P5 D5 ⊢
  have hlr : (List.replicate N.ends.length (-1 : Int)).length = N.ends.length := by simp
  obtain ⟨y1, y2⟩ := IntS.at_ D5.out (j := root) (by rw [hlr]; exact hroot)
  rw [nth_replicate _ _ hroot] at y1
  have HS := Lib.hid (IntS.set D5.out (j := root) (by rw [hlr]; exact hroot) 0)
  go_upto_region 4 with fail
  clear y1 y2
  refine nameC ?_
  intro W7 HW7
  have hg7 : W5.grownBy W7 (some bd) := by rw [HW7.out]; exact grown_set _ _ _
  have hs7 := hg7.size
  have HF7 := Lib.hid (HF5.out.grown hg7 (fun g hg => by cases hg; omega)); clear HF5
  have P7 := Lib.hid (IntS.far P5.out hg7 (by omega) (fun g hg => by cases hg; omega)); clear P5
  have HD0 : Hid (IntS W7 W3.heap.size W5.heap.size (.slice (some ⟨bd, od, none⟩) N.ends.length cd) (wave0 N root).dep) := by rw [HW7.out]; exact HS
  clear HW7 HS D5
  have N_7 := Lib.hid (Net.turned G1.out HF7.out (by omega) (by omega)); clear G1
  have bx1_7 := HF7.out.boxN bx1 (by omega); clear bx1
  have hbA7 := (HF7.out.below_of hbA (by omega) (by omega)); clear hbA HF7
  go_wp2_with fail
  go_loopw [9, 10] (fun mv rv wr => ∃ (q : Nat) (s : WSt), mv = .int .i64 s.msg ∧ rv = .int .i64 ((q : Int) + 1) ∧ Hid (IntS wr W1.heap.size W3.heap.size (.slice (some ⟨bp, op, none⟩) N.ends.length cp) s.par) ∧ Hid (IntS wr W3.heap.size W5.heap.size (.slice (some ⟨bd, od, none⟩) N.ends.length cd) s.dep) ∧ Hid (WTop N root q s) ∧ W7.heap.size ≤ wr.heap.size ∧ Hid (Turned W1.heap.size W5.heap.size W7 wr)) (fun mv rv _ => N.ends.length + 2 - (intOf rv).toNat)
  case atStart => exact ⟨0, wave0 N root, rfl, rfl, P7, HD0, Lib.hid (WTop.zero hroot), Nat.le_refl _, Lib.hid (Turned.refl W1.heap.size W5.heap.size W7)⟩
  case round =>
    obtain ⟨q, s, rfl, rfl, HP, HD, HT, hz, HF8⟩ := hrel
    have hs8 := HF8.out.size
    have hqn := HT.out.qle
    have hmsg := HT.out.msg
    have hpl := HT.out.plen
    have hdl := HT.out.dlen
    have hdlow := Lib.hid HT.out.dlow
    obtain ⟨wq, rfl⟩ : ∃ wq : World, wq = wr := ⟨_, rfl⟩
    go_wp2_with fail
    refine (l1Own_any _ s.dep _ _ _ HD.out (by omega) (by omega) (by omega)).mono ?_
    rintro e W9 ⟨rb, rfl, hrb, hb9⟩
    have hg9 := grown_below hb9; clear hb9
    have hs9 := hg9.size
    have HF9 := Lib.hid (HF8.out.still hg9); clear HF8
    have P9 := Lib.hid (IntS.still HP.out hg9 (by omega)); clear HP
    have D9 := Lib.hid (IntS.still HD.out hg9 (by omega)); clear HD
    have B9 := Lib.hid hrb; clear hrb
    obtain ⟨Ab, cb, rfl, hcb, hdb⟩ := B9.out.dims
    obtain ⟨bb, ob, rfl, _, hbb, _, _⟩ := IntS.opened B9.out (j := 0) (by omega)
    have kbx1_0 : W9.cell? ⟨w.heap.size, 0, none⟩ = some (.slice (some ⟨b1, o1, none⟩) N.ends.length c1) := (HF9.out.boxN bx1_7 (by omega)).cell 0 (by simp)
    have kbx1_1 : W9.cell? ⟨w.heap.size, 1, none⟩ = some (.slice A1' N.ids.length c1') := (HF9.out.boxN bx1_7 (by omega)).cell 1 (by simp)
    have kbx1_2 : W9.cell? ⟨w.heap.size, 2, none⟩ = some (.slice A1'' N.inputs.length c1'') := (HF9.out.boxN bx1_7 (by omega)).cell 2 (by simp)
    obtain ⟨wb, rfl⟩ : ∃ wb : World, wb = W9 := ⟨_, rfl⟩
    go_wp2_with fail
    clear kbx1_0 kbx1_1 kbx1_2
    go_loop [38, 12] (fun iv cv => ∃ (k c : Nat), k ≤ N.ends.length ∧ iv = .int .i64 k ∧ cv = .int .i64 c ∧ c ≤ 6 * k ∧ Hid (c = sumN (fun v => cntSend N s.par s.dep q v (nthL N.ends v).length) k)) (fun iv cv => N.ends.length - (intOf iv).toNat)
    case atStart => exact ⟨0, 0, Nat.zero_le _, rfl, rfl, Nat.le_refl _, Lib.hid rfl⟩
    case round =>
      obtain ⟨k, c, hk, rfl, rfl, hc, HC⟩ := hrel
      by_cases hlt : k < N.ends.length
      case pos =>
        obtain ⟨Ar, cr, hbr, qr, hcr, hdr, hRr⟩ := Net.rowIn N_7.out hlt
        replace qr := (HF9.out.cell (by omega) (by omega)).trans qr
        have Rr := Lib.hid hRr; clear hRr
        have hd6 := good_deg HG.out hlt
        have hki : (k : Int) < s.dep.length := by rw [hdl]; omega
        obtain ⟨x1, _⟩ := IntS.at_ B9.out (j := k) (by rw [hdl]; exact hlt)
        obtain ⟨dk, HDK⟩ : ∃ y, Hid (nth s.dep k = y) := ⟨_, Lib.hid rfl⟩
        rw [HDK.out] at x1
        have hw1 : IntKind.i64.wrap ((q : Int) + 1 - 1) = (q : Int) := by rw [show (q : Int) + 1 - 1 = q by omega]; exact IntWalk.i64_in _ (by omega)
        have HCN := Lib.hid (show sumN (fun v => cntSend N s.par s.dep q v (nthL N.ends v).length) (k + 1) = c + cntSend N s.par s.dep q k (nthL N.ends k).length by rw [sumN, ← HC.out])
        by_cases hdk : dk = (q : Int)
        case neg =>
          have hdk' : (dk != (q : Int)) = true := by simpa using hdk
          have HCO := Lib.hid (cntSend_off (N := N) (par := s.par) (m := (nthL N.ends k).length) (by rw [HDK.out]; exact hdk : nth s.dep k ≠ (q : Int)))
          clear hdk
          go_wp2_with fail
          go_round
          case rel => exact ⟨k + 1, c, by omega, by go_num, rfl, by omega, Lib.hid (by rw [HCN.out, HCO.out]; rfl)⟩
          case measure => simp [intOf]; omega
        have hdk' : (dk != (q : Int)) = false := by simp [hdk]
        have HDQ := Lib.hid (show nth s.dep k = (q : Int) by rw [HDK.out]; exact hdk)
        clear hdk
        go_wp2_with fail
        clear x1 qr
        go_loop [52, 12] (fun iv cv => ∃ (i c2 : Nat), i ≤ (nthL N.ends k).length ∧ iv = .int .i64 i ∧ cv = .int .i64 c2 ∧ c2 ≤ 6 * k + i ∧ Hid (c2 = c + cntSend N s.par s.dep q k i)) (fun iv cv => (nthL N.ends k).length - (intOf iv).toNat)
        case atStart => exact ⟨0, c, Nat.zero_le _, rfl, rfl, by omega, Lib.hid rfl⟩
        case round =>
          obtain ⟨i, c2, hi, rfl, rfl, hc2, HC2⟩ := hrel
          by_cases hil : i < (nthL N.ends k).length
          case neg =>
            obtain rfl : i = (nthL N.ends k).length := by omega
            go_wp2_with fail
            go_round
            case rel => exact ⟨k + 1, c2, by omega, by go_num, rfl, by omega, Lib.hid (by rw [HCN.out, HC2.out])⟩
            case measure => simp [intOf]; omega
          obtain ⟨x1, _⟩ := IntS.at_ P9.out (j := k) (by rw [hpl]; exact hlt)
          obtain ⟨pk, HPK⟩ : ∃ y, Hid (nth s.par k = y) := ⟨_, Lib.hid rfl⟩
          rw [HPK.out] at x1
          have HSS := Lib.hid (show sendB N s.par s.dep q k i = !decide ((i : Int) = pk) by unfold sendB; rw [decide_eq_true hil, decide_eq_true HDQ.out, HPK.out]; rfl)
          have HCS := Lib.hid (cntSend_succ N s.par s.dep q k i)
          by_cases hip : (i : Int) = pk
          case pos =>
            have hip' : ((i : Int) != pk) = false := by simp [hip]
            have HN := Lib.hid (show cntSend N s.par s.dep q k (i + 1) = cntSend N s.par s.dep q k i by rw [HCS.out, HSS.out, decide_eq_true hip]; rfl)
            clear hip
            go_wp2_with fail
            go_round
            case rel => exact ⟨i + 1, c2, by omega, by go_num, rfl, by omega, Lib.hid (by rw [HN.out, HC2.out])⟩
            case measure => simp [intOf]; omega
          have hip' : ((i : Int) != pk) = true := by simpa using hip
          have HN := Lib.hid (show cntSend N s.par s.dep q k (i + 1) = cntSend N s.par s.dep q k i + 1 by rw [HCS.out, HSS.out, decide_eq_false hip]; rfl)
          clear hip
          go_wp2_with fail
          go_round
          case rel => exact ⟨i + 1, c2 + 1, by omega, by go_num, by go_num, by omega, Lib.hid (by rw [HN.out, HC2.out]; omega)⟩
          case measure => simp [intOf]; omega
      obtain rfl : k = N.ends.length := by omega
      have HCC := Lib.hid (show c = sentN N s.par s.dep q from HC.out)
      have kbx1_0 : wb.cell? ⟨w.heap.size, 0, none⟩ = some (.slice (some ⟨b1, o1, none⟩) N.ends.length c1) := (HF9.out.boxN bx1_7 (by omega)).cell 0 (by simp)
      have kbx1_1 : wb.cell? ⟨w.heap.size, 1, none⟩ = some (.slice A1' N.ids.length c1') := (HF9.out.boxN bx1_7 (by omega)).cell 1 (by simp)
      have kbx1_2 : wb.cell? ⟨w.heap.size, 2, none⟩ = some (.slice A1'' N.inputs.length c1'') := (HF9.out.boxN bx1_7 (by omega)).cell 2 (by simp)
      go_wp2_with fail
      clear kbx1_0 kbx1_1 kbx1_2
      go_loopw [68] (fun iv wr => ∃ (k : Nat) (par' dep' : List Int), k ≤ N.ends.length ∧ iv = .int .i64 k ∧ Hid (IntS wr W1.heap.size W3.heap.size (.slice (some ⟨bp, op, none⟩) N.ends.length cp) par') ∧ Hid (IntS wr W3.heap.size W5.heap.size (.slice (some ⟨bd, od, none⟩) N.ends.length cd) dep') ∧ Hid (IntS wr wq.heap.size wb.heap.size (.slice (some ⟨bb, ob, none⟩) s.dep.length cb) s.dep) ∧ Hid (WB N s.par s.dep q k 0 par' dep') ∧ wb.heap.size ≤ wr.heap.size ∧ Hid (Turned W1.heap.size W5.heap.size W7 wr)) (fun iv _ => N.ends.length - (intOf iv).toNat)
      case atStart => exact ⟨0, s.par, s.dep, Nat.zero_le _, rfl, P9, D9, B9, Lib.hid (WB.start hpl hdl), Nat.le_refl _, HF9⟩
      case round =>
        clear HF9
        obtain ⟨k, par', dep', hk, rfl, HP, HD, HBF, HM, hz2, HF12⟩ := hrel
        have hs12 := HF12.out.size
        by_cases hlt : k < N.ends.length
        case pos =>
          obtain ⟨Ar, cr, hbr, qr, hcr, hdr, hRr⟩ := Net.rowIn N_7.out hlt
          replace qr := (HF12.out.cell (by omega) (by omega)).trans qr
          have Rr := Lib.hid hRr; clear hRr
          have hd6 := good_deg HG.out hlt
          have hki : (k : Int) < N.ends.length := by omega
          obtain ⟨wk, rfl⟩ : ∃ wk : World, wk = wr := ⟨_, rfl⟩
          go_wp2_with fail
          clear qr
          go_loopw [75] (fun iv wr => ∃ (j : Nat) (par' dep' : List Int), j ≤ (nthL N.ends k).length ∧ iv = .int .i64 j ∧ Hid (IntS wr W1.heap.size W3.heap.size (.slice (some ⟨bp, op, none⟩) N.ends.length cp) par') ∧ Hid (IntS wr W3.heap.size W5.heap.size (.slice (some ⟨bd, od, none⟩) N.ends.length cd) dep') ∧ Hid (IntS wr wq.heap.size wb.heap.size (.slice (some ⟨bb, ob, none⟩) s.dep.length cb) s.dep) ∧ Hid (WB N s.par s.dep q k j par' dep') ∧ wk.heap.size ≤ wr.heap.size ∧ Hid (Turned W1.heap.size W5.heap.size W7 wr)) (fun iv _ => (nthL N.ends k).length - (intOf iv).toNat)
          case atStart => exact ⟨0, par', dep', Nat.zero_le _, rfl, HP, HD, HBF, HM, Nat.le_refl _, HF12⟩
          case round =>
            clear HF12
            obtain ⟨j, par', dep', hj, rfl, HP, HD, HBF, HM, hz3, HF13⟩ := hrel
            have hs13 := HF13.out.size
            have hpl2 := HM.out.plen
            have hdl2 := HM.out.dlen
            by_cases hjl : j < (nthL N.ends k).length
            case neg =>
              obtain rfl : j = (nthL N.ends k).length := by omega
              have HMN := Lib.hid HM.out.next
              go_wp2_with fail
              go_roundw
              case rel => exact ⟨k + 1, _, _, by omega, by go_num, HP, HD, HBF, HMN, by omega, HF13⟩
              case measure => simp [intOf]; omega
            obtain ⟨br, or, rfl, _, hbr', er, er'⟩ := (EndS.turned Rr.out HF13.out (by omega) (by omega)).opened hjl
            obtain ⟨t, r, etr, ht, hr, eur⟩ := good_end HG.out hlt hjl
            rw [etr] at er er'
            dsimp only at er er'
            have ETr := Lib.hid etr
            have EUr := Lib.hid eur
            clear etr eur
            go_upto_region 25 with (fail)
            refine nameC ?_
            intro W14 HW14
            have hg14 : wr.grownBy W14 none := by rw [HW14.out]; exact grown_alloc _ _
            have hs14 := hg14.size
            have HF14 := Lib.hid (HF13.out.still hg14); clear HF13
            have P14 := Lib.hid (IntS.still HP.out hg14 (by omega)); clear HP
            have D14 := Lib.hid (IntS.still HD.out hg14 (by omega)); clear HD
            have B14 := Lib.hid (IntS.still HBF.out hg14 (by omega)); clear HBF
            have bxe14 := Lib.hid (show BoxN W14 wr.heap.size #[.int .i64 t, .int .i64 r] 74 by rw [HW14.out]; exact BoxN.new _ _ _)
            clear HW14
            clear er er'
            obtain ⟨x1, x1f⟩ := IntS.at_ D14.out (j := k) (by rw [hdl2]; exact hlt)
            obtain ⟨x2, _⟩ := IntS.at_ B14.out (j := t) (by rw [hdl]; exact ht)
            obtain ⟨x3, _⟩ := IntS.at_ P14.out (j := t) (by rw [hpl2]; exact ht)
            obtain ⟨x4, x4f⟩ := IntS.at_ P14.out (j := k) (by rw [hpl2]; exact hlt)
            obtain ⟨dk, HDK⟩ : ∃ y, Hid (nth dep' k = y) := ⟨_, Lib.hid rfl⟩
            obtain ⟨dt, HDT⟩ : ∃ y, Hid (nth s.dep t = y) := ⟨_, Lib.hid rfl⟩
            obtain ⟨pt, HPT⟩ : ∃ y, Hid (nth par' t = y) := ⟨_, Lib.hid rfl⟩
            obtain ⟨pk, HPK⟩ : ∃ y, Hid (nth par' k = y) := ⟨_, Lib.hid rfl⟩
            rw [HDK.out] at x1
            rw [HDT.out] at x2
            rw [HPT.out] at x3
            rw [HPK.out] at x4
            have hti : (t : Int) < N.ends.length := by omega
            have htd : (t : Int) < s.dep.length := by rw [hdl]; omega
            have hw1 : IntKind.i64.wrap ((q : Int) + 1 - 1) = (q : Int) := by rw [show (q : Int) + 1 - 1 = q by omega]; exact IntWalk.i64_in _ (by omega)
            have HHT := Lib.hid (show hitB N s.par s.dep q k j = (decide (dt = (q : Int)) && !decide ((r : Int) = nth s.par t)) by rw [hit_is HG.out ETr.out hr, HDT.out])
            have kbxe_0 : W14.cell? ⟨wr.heap.size, 0, none⟩ = some (.int .i64 t) := bxe14.out.cell 0 (by simp)
            have kbxe_1 : W14.cell? ⟨wr.heap.size, 1, none⟩ = some (.int .i64 r) := bxe14.out.cell 1 (by simp)
            by_cases hdk : dk < 0
            case neg =>
              have g1 : decide (dk < 0) = false := decide_eq_false hdk
              have HMN := Lib.hid (HM.out.miss hlt (.inl (by rw [HDK.out]; exact hdk)))
              go_wp2_with fail
              go_quiet (fail)
              go_wp2_with fail
              go_roundw
              case rel => exact ⟨j + 1, _, _, by omega, by go_num, Lib.hid (IntS.still P14.out (grown_drewN _ nq) (by omega)), Lib.hid (IntS.still D14.out (grown_drewN _ nq) (by omega)), Lib.hid (IntS.still B14.out (grown_drewN _ nq) (by omega)), HMN, by show _ ≤ (World.drewN _ _).heap.size; simp; omega, Lib.hid (HF14.out.still (grown_drewN _ nq))⟩
              case measure => simp [intOf]; omega
            have g1 : decide (dk < 0) = true := decide_eq_true hdk
            by_cases hdt : dt = (q : Int)
            case neg =>
              have g2 : (dt == (q : Int)) = false := by simpa using hdt
              have HMN := Lib.hid (HM.out.miss hlt (.inr (by rw [HHT.out, decide_eq_false hdt]; rfl)))
              clear hdt
              go_wp2_with fail
              go_quiet (fail)
              go_wp2_with fail
              go_roundw
              case rel => exact ⟨j + 1, _, _, by omega, by go_num, Lib.hid (IntS.still P14.out (grown_drewN _ nq) (by omega)), Lib.hid (IntS.still D14.out (grown_drewN _ nq) (by omega)), Lib.hid (IntS.still B14.out (grown_drewN _ nq) (by omega)), HMN, by show _ ≤ (World.drewN _ _).heap.size; simp; omega, Lib.hid (HF14.out.still (grown_drewN _ nq))⟩
              case measure => simp [intOf]; omega
            have g2 : (dt == (q : Int)) = true := by simpa using hdt
            have hpe : nth s.par t = pt := by rw [← HPT.out]; exact ((HM.out.old ht (by rw [HDT.out, hdt]; omega)).2).symm
            by_cases hrp : (r : Int) = pt
            case pos =>
              have g3 : ((r : Int) != pt) = false := by simp [hrp]
              have HMN := Lib.hid (HM.out.miss hlt (.inr (by rw [HHT.out, hpe, decide_eq_true hrp]; simp)))
              clear hdt hrp
              go_wp2_with fail
              go_quiet (fail)
              go_wp2_with fail
              go_roundw
              case rel => exact ⟨j + 1, _, _, by omega, by go_num, Lib.hid (IntS.still P14.out (grown_drewN _ nq) (by omega)), Lib.hid (IntS.still D14.out (grown_drewN _ nq) (by omega)), Lib.hid (IntS.still B14.out (grown_drewN _ nq) (by omega)), HMN, by show _ ≤ (World.drewN _ _).heap.size; simp; omega, Lib.hid (HF14.out.still (grown_drewN _ nq))⟩
              case measure => simp [intOf]; omega
            have g3 : ((r : Int) != pt) = true := by simpa using hrp
            have HMN := Lib.hid (HM.out.hit hlt (by omega) (by rw [HDK.out]; exact hdk) (by rw [HHT.out, hpe, decide_eq_true hdt, decide_eq_false hrp]; rfl))
            clear hdt hrp
            go_wp2_with fail
            go_quiet (fail)
            go_upto_region 26 with fail
            refine nameC ?_
            intro W15 HW15
            have hg15 : W14.grownBy W15 none := by rw [HW15.out]; exact grown_drewN _ nq
            have x1q : W15.cell? ⟨bd, od + k, none⟩ = some (.int .i64 dk) := by rw [HW15.out]; exact x1
            have x1g : W15.frozen? ⟨bd, od + k, none⟩ = false := by rw [HW15.out]; exact x1f
            clear HW15 x1 x2 x3 x4 x4f x1f kbxe_0 kbxe_1
            have hs15 := hg15.size
            have HF15 := Lib.hid (HF14.out.still hg15); clear HF14
            have P15 := Lib.hid (IntS.still P14.out hg15 (by omega)); clear P14
            have D15 := Lib.hid (IntS.still D14.out hg15 (by omega)); clear D14
            have B15 := Lib.hid (IntS.still B14.out hg15 (by omega)); clear B14
            have bxe15 := Lib.hid (BoxN.still bxe14.out hg15); clear bxe14
            have HSD := Lib.hid (IntS.set D15.out (j := k) (by rw [hdl2]; exact hlt) ((q : Int) + 1))
            go_upto_region 27 with fail
            clear x1q x1g
            refine nameC ?_
            intro W16 HW16
            have hg16 : W15.grownBy W16 (some bd) := by rw [HW16.out]; exact grown_set _ _ _
            have hs16 := hg16.size
            have HF16 := Lib.hid (HF15.out.grown hg16 (fun g hg => by cases hg; omega)); clear HF15
            have P16 := Lib.hid (IntS.far P15.out hg16 (by omega) (fun g hg => by cases hg; omega)); clear P15
            have B16 := Lib.hid (IntS.far B15.out hg16 (by omega) (fun g hg => by cases hg; omega)); clear B15
            have bxe16 := Lib.hid (BoxN.far bxe15.out hg16 (fun g hg => by cases hg; omega)); clear bxe15
            have HDN : Hid (IntS W16 W3.heap.size W5.heap.size (.slice (some ⟨bd, od, none⟩) N.ends.length cd) (dep'.set k ((q : Int) + 1))) := by rw [HW16.out]; exact HSD
            clear HW16 HSD D15
            obtain ⟨x4, x4f⟩ := IntS.at_ P16.out (j := k) (by rw [hpl2]; exact hlt)
            rw [HPK.out] at x4
            have HSP := Lib.hid (IntS.set P16.out (j := k) (by rw [hpl2]; exact hlt) (j : Int))
            go_upto_region 28 with fail
            clear x4 x4f
            refine nameC ?_
            intro W17 HW17
            have hg17 : W16.grownBy W17 (some bp) := by rw [HW17.out]; exact grown_set _ _ _
            have hs17 := hg17.size
            have HF17 := Lib.hid (HF16.out.grown hg17 (fun g hg => by cases hg; omega)); clear HF16
            have D17 := Lib.hid (IntS.far HDN.out hg17 (by omega) (fun g hg => by cases hg; omega)); clear HDN
            have B17 := Lib.hid (IntS.far B16.out hg17 (by omega) (fun g hg => by cases hg; omega)); clear B16
            have bxe17 := Lib.hid (BoxN.far bxe16.out hg17 (fun g hg => by cases hg; omega)); clear bxe16
            have HPN : Hid (IntS W17 W1.heap.size W3.heap.size (.slice (some ⟨bp, op, none⟩) N.ends.length cp) (par'.set k (j : Int))) := by rw [HW17.out]; exact HSP
            clear HW17 HSP P16
            go_wp2_with fail
            go_roundw
            case rel => exact ⟨j + 1, _, _, by omega, by go_num, HPN, D17, B17, HMN, by omega, HF17⟩
            case measure => simp [intOf]; omega
        obtain rfl : k = N.ends.length := by omega
        obtain ⟨hp9, hd9⟩ := HM.out.end
        have HPN : Hid (IntS wr W1.heap.size W3.heap.size (.slice (some ⟨bp, op, none⟩) N.ends.length cp) (wstep N q s).par) := by rw [show (wstep N q s).par = par' from hp9.symm]; exact HP
        have HDN : Hid (IntS wr W3.heap.size W5.heap.size (.slice (some ⟨bd, od, none⟩) N.ends.length cd) (wstep N q s).dep) := by rw [show (wstep N q s).dep = dep' from hd9.symm]; exact HD
        clear hp9 hd9
        by_cases hc0 : c = 0
        case pos =>
          have hc0' : ((c : Int) == 0) = true := by simp; exact hc0
          have HS0 := Lib.hid (HT.out.sent_stop HG.out (by rw [← HCC.out]; exact hc0))
          have HSN := Lib.hid (wstep_none HG.out hpl hdl (q := q) (by rw [← HCC.out]; exact hc0))
          rw [HSN.out] at HPN HDN
          clear hc0
          go_wp2_with fail
          go_ret3
          exact ⟨.slice (some ⟨bp, op, none⟩) N.ends.length cp, .slice (some ⟨bd, od, none⟩) N.ends.length cd, W3.heap.size, by rw [HS0.out]; rfl, by omega, by omega, by rw [HS0.out]; exact HPN.out.mono (by omega) (by omega), by rw [HS0.out]; exact HDN.out.mono (by omega) (by omega), (HF12.out.below_of hbA7 (by omega) (by omega))⟩
        have hc0' : ((c : Int) == 0) = false := by simp; exact hc0
        have HT2 := Lib.hid (HT.out.step HG.out (sent_any (by rw [← HCC.out]; exact hc0)))
        have hq2 := HT2.out.qle
        have HMS := Lib.hid (show (wstep N q s).msg = s.msg + c by rw [HCC.out]; rfl)
        clear hc0
        go_wp2_with fail
        go_roundw
        case rel => exact ⟨q + 1, wstep N q s, by rw [HMS.out]; go_num, by go_num, HPN, HDN, HT2, by omega, HF12⟩
        case measure => simp [intOf]; omega

end Go.Proofs.Ytoebgfmnjjiddaa
