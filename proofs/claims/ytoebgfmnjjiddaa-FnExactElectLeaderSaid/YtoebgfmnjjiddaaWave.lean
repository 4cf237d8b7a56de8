/-
  Contracts: a wave through a network (the program).
-/
import Derived.Test.YtoebgfmnjjiddaaWaveP
import Derived.Test.YtoebgfmnjjiddaaReg
import Derived.Test.YtoebgfmnjjiddaaExt
import Derived.Test.YtoebgfmnjjiddaaIsNet
import Derived.Test.YtoebgfmnjjiddaaRepeat
import Derived.Test.YtoebgfmnjjiddaaQueue
namespace Go.Proofs.Ytoebgfmnjjiddaa
open Go.ChangeShapes Go.WideShapes Go.ChangeAt Go.RowKit
set_option linter.unusedVariables false

theorem results_tmp4 {fn : Func} {t u v x : Tmp} (h : fn.results = #[.tmp t, .tmp u, .tmp v, .tmp x]) (tmps : Array Value) (P : Program) (w : World) :
    (results fn tmps).run P w = .ok (.tuple #[tmps.getD t undef, tmps.getD u undef, tmps.getD v undef, tmps.getD x undef]) w := by
  simp [results, h]
theorem ret_rrib {r q : Value} {a b : Int} {c d : Bool} (h : a = b) (h2 : c = d) : Ending.returned (.tuple #[r, q, .int .i64 a, .bool c]) = .returned (.tuple #[r, q, .int .i64 b, .bool d]) := by rw [h, h2]
def wvPar (N : NetD) (x : Int) : List Int := if waveOk N x = true then (wave N x.toNat).par else []
def wvDep (N : NetD) (x : Int) : List Int := if waveOk N x = true then (wave N x.toNat).dep else []
def wvMsg (N : NetD) (x : Int) : Nat := if waveOk N x = true then (wave N x.toNat).msg else 0
theorem wvNo {N : NetD} {x : Int} (h : waveOk N x = false) : wvPar N x = [] ∧ wvDep N x = [] ∧ wvMsg N x = 0 := by unfold wvPar wvDep wvMsg; rw [h]; exact ⟨rfl, rfl, rfl⟩
theorem wvYes {N : NetD} {r : Nat} (h : waveOk N r = true) : wvPar N r = (wave N r).par ∧ wvDep N r = (wave N r).dep ∧ wvMsg N r = (wave N r).msg := by unfold wvPar wvDep wvMsg; rw [if_pos h, if_pos h, if_pos h, Int.toNat_natCast]; exact ⟨rfl, rfl, rfl⟩
theorem send_is {N : NetD} {par dep : List Int} {d : Int} {v i : Nat} (hi : i < (nthL N.ends v).length) (hd : nth dep v = d) : sendB N par dep d v i = !decide ((i : Int) = nth par v) := by unfold sendB; rw [decide_eq_true hi, decide_eq_true hd]; rfl
theorem front_at {N : NetD} {dep fr : List Int} {d : Int} (h : Front N dep d fr) {a : Nat} (ha : a < fr.length) : ∃ v : Nat, nth fr a = v ∧ v < N.ends.length ∧ nth dep v = d := by
  obtain ⟨v, hv, e, e2⟩ := (h.mem _).1 (nth_mem ha); exact ⟨v, e, hv, e2⟩
theorem front_zero {N : NetD} {root : Nat} (hr : root < N.ends.length) : Front N (wave0 N root).dep ((0 : Nat) : Int) [(root : Int)] := by
  have hl : (List.replicate N.ends.length (-1 : Int)).length = N.ends.length := by simp
  have hs : ∀ j, j < N.ends.length → nth (wave0 N root).dep j = if j = root then 0 else -1 := fun j hj => by
    simp only [wave0]
    rw [nth_set _ _ _ _ (by omega), nth_replicate _ _ hj]
  refine ⟨by simp, fun x => ?_⟩
  constructor
  · intro hx
    have hx' : x = root := by simpa using hx
    exact ⟨root, hr, hx', by rw [hs _ hr, if_pos rfl]; rfl⟩
  · rintro ⟨v, hv, rfl, e⟩
    rw [hs v hv] at e
    by_cases h : v = root
    · rw [h]; simp
    · rw [if_neg h] at e; omega

set_option maxHeartbeats 1000000 in
set_option maxRecDepth 100000 in
theorem WaveFrom_impl (v1 : Value) (N : NetD) (lo1 hi1 : Nat) (x : Int) (w : World) (h1 : Net w lo1 hi1 v1 N) (hh1 : hi1 ≤ w.heap.size) (hz1 : N.sz ≤ 1048576) (ok1 : N.Ok) (ok2 : I64 x) :
    Calls Try.prog 48 #[v1, .int .i64 x] w fun e w' => ∃ r r2 m, e = .returned (.tuple #[r, r2, .int .i64 (wvMsg N x : Nat), .bool (waveOk N x)]) ∧ w.heap.size ≤ m ∧ m ≤ w'.heap.size ∧ IntS w' w.heap.size m r (wvPar N x) ∧ IntS w' m w'.heap.size r2 (wvDep N x) ∧ Below w.heap.size w w' := by
  clear ok1 ok2
  have F1 := Lib.hid h1
  obtain ⟨A1, c1, A1', c1', A1'', c1'', rfl, hc1, hd1, _⟩ := h1.parts
  clear h1
  obtain ⟨WA, HWA⟩ : ∃ W, Hid (W = (w.alloc (.cells #[.slice A1 N.ends.length c1, .slice A1' N.ids.length c1', .slice A1'' N.inputs.length c1''] 33))) := ⟨_, Lib.hid rfl⟩
  have hbA : Below w.heap.size w WA := by rw [HWA.out]; exact ((Below.refl _ _).alloc (Nat.le_refl _) _)
  have hsA : w.heap.size + 1 ≤ WA.heap.size := by rw [HWA.out]; simp; try omega
  have bx1 : BoxN WA (w.heap.size) #[.slice A1 N.ends.length c1, .slice A1' N.ids.length c1', .slice A1'' N.inputs.length c1''] 33 := by rw [HWA.out]; exact (BoxN.new' _ _ _ (by simp))
  have G1 := Lib.hid (Net.below F1.out hbA hh1); clear F1
  go_enter Try.func48, Try.ntmps48
  go_upto_region 1 with (fail)
  rw [← HWA.out]; clear HWA
  have kbx1_0 : WA.cell? ⟨w.heap.size, 0, none⟩ = some (.slice A1 N.ends.length c1) := bx1.cell 0 (by simp)
  have kbx1_1 : WA.cell? ⟨w.heap.size, 1, none⟩ = some (.slice A1' N.ids.length c1') := bx1.cell 1 (by simp)
  have kbx1_2 : WA.cell? ⟨w.heap.size, 2, none⟩ = some (.slice A1'' N.inputs.length c1'') := bx1.cell 2 (by simp)
  go_wp2_with fail
  clear kbx1_0 kbx1_1 kbx1_2
  refine (IsNetwork_any _ N lo1 hi1 _ G1.out (by omega) hz1).mono ?_
  rintro e W1 ⟨rfl, hb1⟩
  have hg1 := grown_below hb1; clear hb1
  have hs1 := hg1.size
  have HF1 := Lib.hid ((Turned.refl WA.heap.size WA.heap.size WA).still hg1)
  by_cases hg : N.good = true
  case neg =>
    have hg' : N.good = false := by simpa using hg
    rw [hg']
    have HG := Lib.hid hg'; clear hg hg'
    go_wp2_with fail
    ((try simp only [Exit.inBlock, Exit.then]); refine bodyPost_ret (results_tmp4 rfl _ _ _) rfl ?_)
    exact ⟨_, _, _, ret_rrib (by rw [(wvNo (show waveOk N x = false by unfold waveOk; rw [HG.out]; rfl)).2.2]; rfl) (show waveOk N x = false by unfold waveOk; rw [HG.out]; rfl).symm, Nat.le_refl _, ((HF1.out.below_of hbA (by omega) (by omega))).size, by rw [(wvNo (show waveOk N x = false by unfold waveOk; rw [HG.out]; rfl)).1]; exact IntS.nil _ _ _, by rw [(wvNo (show waveOk N x = false by unfold waveOk; rw [HG.out]; rfl)).2.1]; exact IntS.nil _ _ _, (HF1.out.below_of hbA (by omega) (by omega))⟩
  rw [hg]
  have HG := Lib.hid hg; clear hg
  obtain ⟨n1, n40⟩ := good_n HG.out
  obtain ⟨b1, o1, _, _, rfl, _⟩ := Net.rowAt (Net.turned G1.out HF1.out (by omega) (by omega)) (u := 0) (by omega)
  have kbx1_0 : W1.cell? ⟨w.heap.size, 0, none⟩ = some (.slice (some ⟨b1, o1, none⟩) N.ends.length c1) := (HF1.out.boxN bx1 (by omega)).cell 0 (by simp)
  have kbx1_1 : W1.cell? ⟨w.heap.size, 1, none⟩ = some (.slice A1' N.ids.length c1') := (HF1.out.boxN bx1 (by omega)).cell 1 (by simp)
  have kbx1_2 : W1.cell? ⟨w.heap.size, 2, none⟩ = some (.slice A1'' N.inputs.length c1'') := (HF1.out.boxN bx1 (by omega)).cell 2 (by simp)
  go_wp2_with fail
  clear kbx1_0 kbx1_1 kbx1_2
  refine (hasNode_any _ N x lo1 hi1 _ (Net.turned G1.out HF1.out (by omega) (by omega)) (by omega)).mono ?_
  rintro e W2 ⟨rfl, hb2⟩
  have hg2 := grown_below hb2; clear hb2
  have hs2 := hg2.size
  have HF2 := Lib.hid (HF1.out.still hg2); clear HF1
  by_cases hx : inB x 0 ((N.ends.length : Int) - 1) = true
  case neg =>
    have hx' : inB x 0 ((N.ends.length : Int) - 1) = false := by simpa using hx
    rw [hx']
    have HX := Lib.hid hx'; clear hx hx'
    go_wp2_with fail
    ((try simp only [Exit.inBlock, Exit.then]); refine bodyPost_ret (results_tmp4 rfl _ _ _) rfl ?_)
    exact ⟨_, _, _, ret_rrib (by rw [(wvNo (show waveOk N x = false by unfold waveOk; rw [HX.out]; simp)).2.2]; rfl) (show waveOk N x = false by unfold waveOk; rw [HX.out]; simp).symm, Nat.le_refl _, ((HF2.out.below_of hbA (by omega) (by omega))).size, by rw [(wvNo (show waveOk N x = false by unfold waveOk; rw [HX.out]; simp)).1]; exact IntS.nil _ _ _, by rw [(wvNo (show waveOk N x = false by unfold waveOk; rw [HX.out]; simp)).2.1]; exact IntS.nil _ _ _, (HF2.out.below_of hbA (by omega) (by omega))⟩
  rw [hx]
  have HX := Lib.hid hx; clear hx
  have HOK := Lib.hid (show waveOk N x = true by unfold waveOk; rw [HG.out, HX.out]; rfl)
  have hxx := inB_le HX.out
  obtain ⟨root, rfl⟩ : ∃ m : Nat, x = m := ⟨x.toNat, by omega⟩
  have hroot : root < N.ends.length := by omega
  have hrooti : (root : Int) < N.ends.length := by omega
  clear hxx
  go_wp2_with fail
  refine wp_region_U (fun w' => w'.cell? ⟨w.heap.size, 0, none⟩ = some (.slice (some ⟨b1, o1, none⟩) N.ends.length c1) ∧ w'.cell? ⟨w.heap.size, 1, none⟩ = some (.slice A1' N.ids.length c1') ∧ w'.cell? ⟨w.heap.size, 2, none⟩ = some (.slice A1'' N.inputs.length c1'')) [] (by kernel_rfl) ?_
  refine nameU ?_
  intro W3 HW3
  have hg3 : W2.grownBy W3 none := by rw [HW3.out]; exact grown_drew _
  clear HW3
  have hs3 := hg3.size
  have HF3 := Lib.hid (HF2.out.still hg3); clear HF2
  have hS4 : W3.cell? ⟨w.heap.size, 0, none⟩ = some (.slice (some ⟨b1, o1, none⟩) N.ends.length c1) ∧ W3.cell? ⟨w.heap.size, 1, none⟩ = some (.slice A1' N.ids.length c1') ∧ W3.cell? ⟨w.heap.size, 2, none⟩ = some (.slice A1'' N.inputs.length c1'') := ⟨(HF3.out.boxN bx1 (by omega)).cell 0 (by simp), (HF3.out.boxN bx1 (by omega)).cell 1 (by simp), (HF3.out.boxN bx1 (by omega)).cell 2 (by simp)⟩
  refine anyU_take (i := 0) (v := .agg #[.slice (some ⟨b1, o1, none⟩) N.ends.length c1, .slice A1' N.ids.length c1', .slice A1'' N.inputs.length c1'']) rfl (by kernel_rfl) (by kernel_rfl) (by kernel_rfl) (fun _ _ _ h => h) ⟨by rfl, fun w' hS' => (by obtain ⟨s1, s2, s3⟩ := hS'; go_simp)⟩ hS4 ?_
  simp only [List.getElem_toArray, List.getElem_cons_zero, Act.put, List.setIfInBounds_toArray, List.set_cons_zero, List.set_cons_succ]
  refine anyU_take (i := 2) (v := .agg #[.slice (some ⟨b1, o1, none⟩) N.ends.length c1, .slice A1' N.ids.length c1', .slice A1'' N.inputs.length c1'']) rfl (by kernel_rfl) (by kernel_rfl) (by kernel_rfl) (fun _ _ _ h => h) ⟨by rfl, fun w' hS' => (by obtain ⟨s1, s2, s3⟩ := hS'; go_simp)⟩ hS4 ?_
  simp only [List.getElem_toArray, List.getElem_cons_succ, List.getElem_cons_zero, Act.put, List.setIfInBounds_toArray, List.set_cons_zero, List.set_cons_succ]
  refine anyU_ready (rs := [1]) (by kernel_rfl) (by simp) ?_
  refine ReadyU.cons (i := 1) rfl (fun K hK => ?_) ReadyU.nil
  simp only [List.getElem_toArray, List.getElem_cons_succ, List.getElem_cons_zero]
  refine ite_is (by rfl) ?_
  simp [go_sem]
  refine (noMatching_any _ N lo1 hi1 _ (Net.turned G1.out HF3.out (by omega) (by omega)) (by omega) (by omega)).mono ?_
  rintro e W5 ⟨rp, rfl, hrp, hb5⟩
  have hg5 := grown_below hb5; clear hb5
  have hs5 := hg5.size
  have HF5 := Lib.hid (HF3.out.still hg5); clear HF3
  have P5 := Lib.hid hrp; clear hrp
  have hS6 : W5.cell? ⟨w.heap.size, 0, none⟩ = some (.slice (some ⟨b1, o1, none⟩) N.ends.length c1) ∧ W5.cell? ⟨w.heap.size, 1, none⟩ = some (.slice A1' N.ids.length c1') ∧ W5.cell? ⟨w.heap.size, 2, none⟩ = some (.slice A1'' N.inputs.length c1'') := ⟨(HF5.out.boxN bx1 (by omega)).cell 0 (by simp), (HF5.out.boxN bx1 (by omega)).cell 1 (by simp), (HF5.out.boxN bx1 (by omega)).cell 2 (by simp)⟩
  refine hK.out _ _ ⟨fun _ => hS6, ?_⟩
  clear hK K hS4
  try simp only [List.getElem_toArray, List.getElem_cons_succ, List.getElem_cons_zero, Act.put, List.setIfInBounds_toArray, List.set_cons_zero, List.set_cons_succ]
  refine anyU_ready (rs := [3]) (by kernel_rfl) (by simp) ?_
  refine ReadyU.cons (i := 3) rfl (fun K hK => ?_) ReadyU.nil
  simp only [List.getElem_toArray, List.getElem_cons_succ, List.getElem_cons_zero]
  refine ite_is (by rfl) ?_
  simp [go_sem]
  refine (noMatching_any _ N lo1 hi1 _ (Net.turned G1.out HF5.out (by omega) (by omega)) (by omega) (by omega)).mono ?_
  rintro e W7 ⟨rd, rfl, hrd, hb7⟩
  have hg7 := grown_below hb7; clear hb7
  have hs7 := hg7.size
  have HF7 := Lib.hid (HF5.out.still hg7); clear HF5
  have P7 := Lib.hid (IntS.still P5.out hg7 (by omega)); clear P5
  have D7 := Lib.hid hrd; clear hrd
  have hS8 : W7.cell? ⟨w.heap.size, 0, none⟩ = some (.slice (some ⟨b1, o1, none⟩) N.ends.length c1) ∧ W7.cell? ⟨w.heap.size, 1, none⟩ = some (.slice A1' N.ids.length c1') ∧ W7.cell? ⟨w.heap.size, 2, none⟩ = some (.slice A1'' N.inputs.length c1'') := ⟨(HF7.out.boxN bx1 (by omega)).cell 0 (by simp), (HF7.out.boxN bx1 (by omega)).cell 1 (by simp), (HF7.out.boxN bx1 (by omega)).cell 2 (by simp)⟩
  refine hK.out _ _ ⟨fun _ => hS8, ?_⟩
  clear hK K hS6
  try simp only [List.getElem_toArray, List.getElem_cons_succ, List.getElem_cons_zero, Act.put, List.setIfInBounds_toArray, List.set_cons_zero, List.set_cons_succ]
  refine anyU_ready (rs := [4]) (by kernel_rfl) (by simp) ?_
  refine ReadyU.cons (i := 4) rfl (fun K hK => ?_) ReadyU.nil
  simp only [List.getElem_toArray, List.getElem_cons_succ, List.getElem_cons_zero]
  refine ite_is (by rfl) ?_
  simp [go_sem]
  refine hK.out _ _ ⟨fun _ => hS8, ?_⟩
  clear hK K
  try simp only [List.getElem_toArray, List.getElem_cons_succ, List.getElem_cons_zero, Act.put, List.setIfInBounds_toArray, List.set_cons_zero, List.set_cons_succ]
  refine anyU_ready (rs := [5]) (by kernel_rfl) (by simp) ?_
  refine ReadyU.cons (i := 5) rfl (fun K hK => ?_) ReadyU.nil
  simp only [List.getElem_toArray, List.getElem_cons_succ, List.getElem_cons_zero]
  refine ite_is (by rfl) ?_
  simp [go_sem]
  refine hK.out _ _ ⟨fun _ => hS8, ?_⟩
  clear hK K
  try simp only [List.getElem_toArray, List.getElem_cons_succ, List.getElem_cons_zero, Act.put, List.setIfInBounds_toArray, List.set_cons_zero, List.set_cons_succ]
  clear hS8
  refine anyU_done (by kernel_rfl) ?_ _
  obtain ⟨Ap, cp, rfl, hcp, hdp⟩ := P7.out.dims
  obtain ⟨bp, op, rfl, lbp, hbp, _, _⟩ := IntS.opened P7.out (j := 0) (by simp; omega)
  obtain ⟨Ad, cd, rfl, hcd, hdd⟩ := D7.out.dims
  obtain ⟨bd, od, rfl, lbd, hbd, _, _⟩ := IntS.opened D7.out (j := 0) (by simp; omega)
  rw [List.length_replicate] at hcp hcd
  simp only [List.length_replicate] at P7 D7 ⊢
  have hlr : (List.replicate N.ends.length (-1 : Int)).length = N.ends.length := by simp
  obtain ⟨y1, y2⟩ := IntS.at_ D7.out (j := root) (by rw [hlr]; exact hroot)
  rw [nth_replicate _ _ hroot] at y1
  have HS := Lib.hid (IntS.set D7.out (j := root) (by rw [hlr]; exact hroot) 0)
  go_upto_region 5 with fail
  clear y1 y2
  refine nameC ?_
  intro W9 HW9
  have hg9 : W7.grownBy W9 (some bd) := by rw [HW9.out]; exact grown_set _ _ _
  have hs9 := hg9.size
  have HF9 := Lib.hid (HF7.out.grown hg9 (fun g hg => by cases hg; omega)); clear HF7
  have P9 := Lib.hid (IntS.far P7.out hg9 (by omega) (fun g hg => by cases hg; omega)); clear P7
  have HD0 : Hid (IntS W9 W5.heap.size W7.heap.size (.slice (some ⟨bd, od, none⟩) N.ends.length cd) (wave0 N root).dep) := by rw [HW9.out]; exact HS
  clear HW9 HS D7
  go_upto_region 7 with (fail)
  refine nameC ?_
  intro W10 HW10
  have hg10 : W9.grownBy W10 none := by rw [HW10.out]; exact grown_alloc _ _
  have hs10 := hg10.size
  have HF10 := Lib.hid (HF9.out.still hg10); clear HF9
  have P10 := Lib.hid (IntS.still P9.out hg10 (by omega)); clear P9
  have D10 := Lib.hid (IntS.still HD0.out hg10 (by omega)); clear HD0
  have HFR := Lib.hid (show IntS W10 W9.heap.size (W9.heap.size + 1) (.slice (some ⟨W9.heap.size, 0, none⟩) 1 1) [(root : Int)] by rw [HW10.out]; exact IntS.newN W9 [(root : Int)] _ rfl (by simp))
  have hzf : W9.heap.size + 1 ≤ W10.heap.size := by rw [HW10.out]; simp
  clear HW10
  have N_10 := Lib.hid (Net.turned G1.out HF10.out (by omega) (by omega)); clear G1
  have bx1_10 := HF10.out.boxN bx1 (by omega); clear bx1
  have hbA10 := (HF10.out.below_of hbA (by omega) (by omega)); clear hbA HF10
  go_wp2_with fail
  go_loopw [10, 11, 12] (fun mv fv rv wr => ∃ (q hf : Nat) (s : WSt) (fr : List Int), mv = .int .i64 s.msg ∧ rv = .int .i64 ((q : Int) + 1) ∧ Hid (IntS wr W3.heap.size W5.heap.size (.slice (some ⟨bp, op, none⟩) N.ends.length cp) s.par) ∧ Hid (IntS wr W5.heap.size W7.heap.size (.slice (some ⟨bd, od, none⟩) N.ends.length cd) s.dep) ∧ Hid (IntS wr W7.heap.size hf fv fr) ∧ hf ≤ wr.heap.size ∧ Hid (WTop N root q s) ∧ Hid (Front N s.dep q fr) ∧ W10.heap.size ≤ wr.heap.size ∧ Hid (Turned W3.heap.size W7.heap.size W10 wr)) (fun mv fv rv _ => N.ends.length + 2 - (intOf rv).toNat)
  case atStart => exact ⟨0, W9.heap.size + 1, wave0 N root, [(root : Int)], rfl, rfl, P10, D10, Lib.hid (HFR.out.mono (by omega) (Nat.le_refl _)), by omega, Lib.hid (WTop.zero hroot), Lib.hid (front_zero hroot), by omega, Lib.hid (Turned.refl W3.heap.size W7.heap.size W10)⟩
  case round =>
    obtain ⟨q, hf, s, fr, rfl, rfl, HP, HD, HFR, hhf, HT, HFT, hz, HF11⟩ := hrel
    have hs11 := HF11.out.size
    have hqn := HT.out.qle
    have hmsg := HT.out.msg
    have hpl := HT.out.plen
    have hdl := HT.out.dlen
    obtain ⟨Af, cf, rfl, hcf, hdf⟩ := HFR.out.dims
    by_cases h0 : 0 < fr.length
    case neg =>
      have e0 : fr = [] := List.eq_nil_of_length_eq_zero (by omega)
      have HW0 := Lib.hid (HT.out.front_stop (by rw [← e0]; exact HFT.out)); clear e0
      go_wp2_with fail
      ((try simp only [Exit.inBlock, Exit.then]); refine bodyPost_ret (results_tmp4 rfl _ _ _) rfl ?_)
      refine ⟨_, _, W5.heap.size, ret_rrib (by rw [(wvYes HOK.out).2.2, HW0.out]) HOK.out.symm, by omega, by omega, ?_, ?_, (HF11.out.below_of hbA10 (by omega) (by omega))⟩
      · rw [(wvYes HOK.out).1, HW0.out]; exact HP.out.mono (by omega) (by omega)
      · rw [(wvYes HOK.out).2.1, HW0.out]; exact HD.out.mono (by omega) (by omega)
    have HT2 := Lib.hid (HT.out.step HG.out (WTop.front_any HFT.out h0))
    have hfl := front_len HFT.out
    have hfle := Lib.hid (fun (a : Nat) (ha : a ≤ fr.length) => frCnt_le HG.out (par := s.par) HFT.out ha)
    have hdlow := Lib.hid HT.out.dlow
    obtain ⟨wo, rfl⟩ : ∃ wo : World, wo = wr := ⟨_, rfl⟩
    have h0' : (0 : Int) < fr.length := by omega
    go_wp2_with fail
    clear h0'
    go_loopw [44, 10, 13] (fun iv mv nv wr => ∃ (a : Nat) (par' dep' nx : List Int), a ≤ fr.length ∧ iv = .int .i64 a ∧ mv = .int .i64 (s.msg + frCnt N s.par s.dep q fr a : Nat) ∧ Hid (IntS wr W3.heap.size W5.heap.size (.slice (some ⟨bp, op, none⟩) N.ends.length cp) par') ∧ Hid (IntS wr W5.heap.size W7.heap.size (.slice (some ⟨bd, od, none⟩) N.ends.length cd) dep') ∧ Hid (OwnI wr wo.heap.size 3 nv nx) ∧ Hid (IntS wr W7.heap.size hf (.slice Af fr.length cf) fr) ∧ Hid (WMid N s.par s.dep q (frD N s.par s.dep q fr a 0) par' dep') ∧ Hid (WNext N s.dep dep' q nx) ∧ wo.heap.size ≤ wr.heap.size ∧ Hid (Turned W3.heap.size W7.heap.size W10 wr)) (fun iv mv nv _ => fr.length - (intOf iv).toNat)
    case atStart => exact ⟨0, s.par, s.dep, [], Nat.zero_le _, rfl, rfl, HP, HD, Lib.hid (OwnI.nil _ _ _), HFR, Lib.hid (by rw [frD_zero]; exact WMid.start hpl hdl), Lib.hid (WNext.start (by omega)), Nat.le_refl _, HF11⟩
    case round =>
      clear HF11
      obtain ⟨a, par', dep', nx, ha, rfl, rfl, HP, HD, HN, HFR, HM, HXN, hz2, HF12⟩ := hrel
      have hs12 := HF12.out.size
      have hlv := HN.out.lt
      have hnl := HXN.out.len
      by_cases hlt : a < fr.length
      case neg =>
        obtain rfl : a = fr.length := by omega
        have HME := Lib.hid (show WMid N s.par s.dep q (sendB N s.par s.dep q) par' dep' by have := HM.out; rw [frD_end HFT.out row_out] at this; exact this)
        have hen := HME.out.end
        have HFN := Lib.hid (show Front N (wstep N q s).dep ((q + 1 : Nat) : Int) nx by have := HXN.out.front HME.out (fun x hx => (hdlow.out x hx).2); rw [hen.2] at this; exact this)
        have HPN : Hid (IntS wr W3.heap.size W5.heap.size (.slice (some ⟨bp, op, none⟩) N.ends.length cp) (wstep N q s).par) := by rw [show (wstep N q s).par = par' from hen.1.symm]; exact HP
        have HDN : Hid (IntS wr W5.heap.size W7.heap.size (.slice (some ⟨bd, od, none⟩) N.ends.length cd) (wstep N q s).dep) := by rw [show (wstep N q s).dep = dep' from hen.2.symm]; exact HD
        have HMSG := Lib.hid (show s.msg + frCnt N s.par s.dep q fr fr.length = (wstep N q s).msg by rw [frCnt_end HFT.out]; rfl)
        rw [HMSG.out]
        clear hen
        go_wp2_with fail
        go_roundw
        case rel => exact ⟨q + 1, wr.heap.size, _, nx, rfl, by go_num, HPN, HDN, Lib.hid (HN.out.ints.mono (by omega) (Nat.le_refl _)), Nat.le_refl _, HT2, HFN, by omega, HF12⟩
        case measure => simp [intOf]; omega
      obtain ⟨v, ev, hv, edv⟩ := front_at HFT.out hlt
      have HEV := Lib.hid ev
      have HEDV := Lib.hid edv
      have hfc := hfle.out a ha
      obtain ⟨bf, of, rfl, _, hbf, xf, _⟩ := IntS.opened HFR.out (j := a) hlt
      rw [ev] at xf
      clear ev edv
      have hvi : (v : Int) < N.ends.length := by omega
      have hd6 := good_deg HG.out hv
      obtain ⟨Ar, cr, hbr, qr, hcr, hdr, hRr⟩ := Net.rowIn N_10.out hv
      replace qr := (HF12.out.cell (by omega) (by omega)).trans qr
      have Rr := Lib.hid hRr; clear hRr
      have kbx1_0 : wr.cell? ⟨w.heap.size, 0, none⟩ = some (.slice (some ⟨b1, o1, none⟩) N.ends.length c1) := (HF12.out.boxN bx1_10 (by omega)).cell 0 (by simp)
      have kbx1_1 : wr.cell? ⟨w.heap.size, 1, none⟩ = some (.slice A1' N.ids.length c1') := (HF12.out.boxN bx1_10 (by omega)).cell 1 (by simp)
      have kbx1_2 : wr.cell? ⟨w.heap.size, 2, none⟩ = some (.slice A1'' N.inputs.length c1'') := (HF12.out.boxN bx1_10 (by omega)).cell 2 (by simp)
      go_wp2_with fail
      clear kbx1_0 kbx1_1 kbx1_2 qr xf
      have HCV := Lib.hid (show frCnt N s.par s.dep q fr (a + 1) = frCnt N s.par s.dep q fr a + cntSend N s.par s.dep q v (nthL N.ends v).length by unfold frCnt; rw [sumN, HEV.out, Int.toNat_natCast])
      go_loopw [54, 10, 13] (fun iv mv nv wr => ∃ (i : Nat) (par' dep' nx : List Int), i ≤ (nthL N.ends v).length ∧ iv = .int .i64 i ∧ mv = .int .i64 (s.msg + frCnt N s.par s.dep q fr a + cntSend N s.par s.dep q v i : Nat) ∧ Hid (IntS wr W3.heap.size W5.heap.size (.slice (some ⟨bp, op, none⟩) N.ends.length cp) par') ∧ Hid (IntS wr W5.heap.size W7.heap.size (.slice (some ⟨bd, od, none⟩) N.ends.length cd) dep') ∧ Hid (OwnI wr wo.heap.size 3 nv nx) ∧ Hid (IntS wr W7.heap.size hf (.slice (some ⟨bf, of, none⟩) fr.length cf) fr) ∧ Hid (WMid N s.par s.dep q (frD N s.par s.dep q fr a i) par' dep') ∧ Hid (WNext N s.dep dep' q nx) ∧ wo.heap.size ≤ wr.heap.size ∧ Hid (Turned W3.heap.size W7.heap.size W10 wr)) (fun iv mv nv _ => (nthL N.ends v).length - (intOf iv).toNat)
      case atStart => exact ⟨0, par', dep', nx, Nat.zero_le _, rfl, rfl, HP, HD, HN, HFR, HM, HXN, hz2, HF12⟩
      case round =>
        clear HF12
        obtain ⟨i, par', dep', nx, hi, rfl, rfl, HP, HD, HN, HFR, HM, HXN, hz2, HF13⟩ := hrel
        have hs13 := HF13.out.size
        have hlv := HN.out.lt
        have hnl := HXN.out.len
        have hcs := cntSend_le N s.par s.dep q v i
        have hpl2 := HM.out.plen
        have hdl2 := HM.out.dlen
        by_cases hil : i < (nthL N.ends v).length
        case neg =>
          obtain rfl : i = (nthL N.ends v).length := by omega
          have HMN := Lib.hid (show WMid N s.par s.dep q (frD N s.par s.dep q fr (a + 1) 0) par' dep' by rw [← frD_next hlt HEV.out]; exact HM.out)
          have hce : s.msg + frCnt N s.par s.dep q fr a + cntSend N s.par s.dep q v (nthL N.ends v).length = s.msg + frCnt N s.par s.dep q fr (a + 1) := by rw [HCV.out]; omega
          rw [hce]
          clear hce
          go_wp2_with fail
          go_roundw
          case rel => exact ⟨a + 1, _, _, _, by omega, by go_num, rfl, HP, HD, HN, HFR, HMN, HXN, by omega, HF13⟩
          case measure => simp [intOf]; omega
        obtain ⟨br, or, rfl, _, hbr', er, er'⟩ := (EndS.turned Rr.out HF13.out (by omega) (by omega)).opened hil
        obtain ⟨t, r, etr, ht, hr, eur⟩ := good_end HG.out hv hil
        rw [etr] at er er'
        dsimp only at er er'
        have ETr := Lib.hid etr
        have EUr := Lib.hid eur
        clear etr eur
        go_upto_region 17 with (fail)
        refine nameC ?_
        intro W14 HW14
        have hg14 : wr.grownBy W14 none := by rw [HW14.out]; exact grown_alloc _ _
        have hs14 := hg14.size
        have HF14 := Lib.hid (HF13.out.still hg14); clear HF13
        have P14 := Lib.hid (IntS.still HP.out hg14 (by omega)); clear HP
        have D14 := Lib.hid (IntS.still HD.out hg14 (by omega)); clear HD
        have F14 := Lib.hid (IntS.still HFR.out hg14 (by omega)); clear HFR
        have NX14 := Lib.hid (OwnI.still HN.out hg14); clear HN
        have bxe14 := Lib.hid (show BoxN W14 wr.heap.size #[.int .i64 t, .int .i64 r] 74 by rw [HW14.out]; exact BoxN.new _ _ _)
        clear HW14
        clear er er'
        have hold := HM.out.old hv (by rw [HEDV.out]; omega)
        obtain ⟨x1, _⟩ := IntS.at_ P14.out (j := v) (by rw [hpl2]; exact hv)
        rw [hold.2] at x1
        obtain ⟨pv, HPV⟩ : ∃ y, Hid (nth s.par v = y) := ⟨_, Lib.hid rfl⟩
        rw [HPV.out] at x1
        have HSE := Lib.hid (show sendB N s.par s.dep q v i = !decide ((i : Int) = pv) by rw [send_is hil HEDV.out, HPV.out])
        have HCS := Lib.hid (cntSend_succ N s.par s.dep q v i)
        clear hold
        by_cases hip : (i : Int) = pv
        case pos =>
          have hip' : ((i : Int) == pv) = true := by simpa using hip
          have hse : sendB N s.par s.dep q v i = false := by rw [HSE.out, decide_eq_true hip]; rfl
          have HC2 := Lib.hid (show cntSend N s.par s.dep q v (i + 1) = cntSend N s.par s.dep q v i by rw [HCS.out, hse]; rfl)
          have HMN := Lib.hid (show WMid N s.par s.dep q (frD N s.par s.dep q fr a (i + 1)) par' dep' by rw [frD_no HEV.out hse]; exact HM.out)
          clear hse hip
          go_wp2_with fail
          go_roundw
          case rel => exact ⟨i + 1, _, _, _, by omega, by go_num, by rw [HC2.out], P14, D14, NX14, F14, HMN, HXN, by omega, HF14⟩
          case measure => simp [intOf]; omega
        have hip' : ((i : Int) == pv) = false := by simpa using hip
        have hse : sendB N s.par s.dep q v i = true := by rw [HSE.out, decide_eq_false hip]; rfl
        have HC2 := Lib.hid (show cntSend N s.par s.dep q v (i + 1) = cntSend N s.par s.dep q v i + 1 by rw [HCS.out, hse]; rfl)
        have HMW := Lib.hid (show frD N s.par s.dep q fr a (i + 1) = addB (frD N s.par s.dep q fr a i) v i from frD_yes HEV.out hse)
        clear hse hip
        obtain ⟨x2, x2f⟩ := IntS.at_ D14.out (j := t) (by rw [hdl2]; exact ht)
        obtain ⟨x3, x3f⟩ := IntS.at_ P14.out (j := t) (by rw [hpl2]; exact ht)
        obtain ⟨dt, HDT⟩ : ∃ y, Hid (nth dep' t = y) := ⟨_, Lib.hid rfl⟩
        obtain ⟨pt, HPT⟩ : ∃ y, Hid (nth par' t = y) := ⟨_, Lib.hid rfl⟩
        rw [HDT.out] at x2
        rw [HPT.out] at x3
        have hti : (t : Int) < N.ends.length := by omega
        have kbxe_0 : W14.cell? ⟨wr.heap.size, 0, none⟩ = some (.int .i64 t) := bxe14.out.cell 0 (by simp)
        have kbxe_1 : W14.cell? ⟨wr.heap.size, 1, none⟩ = some (.int .i64 r) := bxe14.out.cell 1 (by simp)
        by_cases hdt : dt < 0
        case pos =>
          have HMN := Lib.hid (HM.out.new HG.out hv hil ETr.out ht (by omega) (by rw [HDT.out]; exact hdt))
          rw [← HMW.out] at HMN
          have hds : nth s.dep t < 0 := by
            have e1 := HM.out.depE t ht
            rw [HDT.out] at e1
            have := HM.out.old ht
            exact Classical.byContradiction fun h => by have := (HM.out.old ht (by omega)).1; rw [HDT.out] at this; omega
          have HXN2 := Lib.hid (HXN.out.new hdl2 (by omega) ht (by rw [HDT.out]; exact hdt) hds)
          have HSD := Lib.hid (IntS.set D14.out (j := t) (by rw [hdl2]; exact ht) ((q : Int) + 1))
          clear hds
          go_wp2_with fail
          clear x1 kbxe_0 kbxe_1
          refine wp_region_U (fun w' => w'.cell? ⟨wr.heap.size, 1, none⟩ = some (.int .i64 r)) [] (by kernel_rfl) ?_
          refine nameU ?_
          intro W15 HW15
          have hg15 : W14.grownBy W15 none := by rw [HW15.out]; exact grown_drew _
          clear HW15
          have hs15 := hg15.size
          have HF15 := Lib.hid (HF14.out.still hg15); clear HF14
          have P15 := Lib.hid (IntS.still P14.out hg15 (by omega)); clear P14
          have D15 := Lib.hid (IntS.still D14.out hg15 (by omega)); clear D14
          have F15 := Lib.hid (IntS.still F14.out hg15 (by omega)); clear F14
          have NX15 := Lib.hid (OwnI.still NX14.out hg15); clear NX14
          have bxe15 := Lib.hid (BoxN.still bxe14.out hg15); clear bxe14
          have hS16 : W15.cell? ⟨wr.heap.size, 1, none⟩ = some (.int .i64 r) := bxe15.out.cell 1 (by simp)
          refine anyU_take (i := 0) (v := .slice (some ⟨bd, od, none⟩) N.ends.length cd) rfl (by kernel_rfl) (by kernel_rfl) (by kernel_rfl) (fun _ _ _ h => h) ⟨by rfl, fun w' hS' => (by have s1 := hS'; go_simp)⟩ hS16 ?_
          simp only [List.getElem_toArray, List.getElem_cons_zero, Act.put, List.setIfInBounds_toArray, List.set_cons_zero, List.set_cons_succ]
          refine anyU_take (i := 1) (v := .int .i64 t) rfl (by kernel_rfl) (by kernel_rfl) (by kernel_rfl) (fun _ _ _ h => h) ⟨by rfl, fun w' hS' => (by have s1 := hS'; go_simp)⟩ hS16 ?_
          simp only [List.getElem_toArray, List.getElem_cons_succ, List.getElem_cons_zero, Act.put, List.setIfInBounds_toArray, List.set_cons_zero, List.set_cons_succ]
          refine anyU_take (i := 2) (v := .slice (some ⟨bp, op, none⟩) N.ends.length cp) rfl (by kernel_rfl) (by kernel_rfl) (by kernel_rfl) (fun _ _ _ h => h) ⟨by rfl, fun w' hS' => (by have s1 := hS'; go_simp)⟩ hS16 ?_
          simp only [List.getElem_toArray, List.getElem_cons_succ, List.getElem_cons_zero, Act.put, List.setIfInBounds_toArray, List.set_cons_zero, List.set_cons_succ]
          refine anyU_take (i := 3) (v := .int .i64 t) rfl (by kernel_rfl) (by kernel_rfl) (by kernel_rfl) (fun _ _ _ h => h) ⟨by rfl, fun w' hS' => (by have s1 := hS'; go_simp)⟩ hS16 ?_
          simp only [List.getElem_toArray, List.getElem_cons_succ, List.getElem_cons_zero, Act.put, List.setIfInBounds_toArray, List.set_cons_zero, List.set_cons_succ]
          refine anyU_take (i := 4) (v := .int .i64 ((q : Int) + 1)) rfl (by kernel_rfl) (by kernel_rfl) (by kernel_rfl) (fun _ _ _ h => h) ⟨by rfl, fun w' hS' => (by have s1 := hS'; go_simp)⟩ hS16 ?_
          simp only [List.getElem_toArray, List.getElem_cons_succ, List.getElem_cons_zero, Act.put, List.setIfInBounds_toArray, List.set_cons_zero, List.set_cons_succ]
          refine anyU_take (i := 5) (v := .pointer (some ⟨wr.heap.size, 1, none⟩)) rfl (by kernel_rfl) (by kernel_rfl) (by kernel_rfl) (fun _ _ _ h => h) ⟨by rfl, fun w' hS' => (by have s1 := hS'; go_simp)⟩ hS16 ?_
          simp only [List.getElem_toArray, List.getElem_cons_succ, List.getElem_cons_zero, Act.put, List.setIfInBounds_toArray, List.set_cons_zero, List.set_cons_succ]
          refine anyU_take (i := 6) (v := .int .i64 r) rfl (by kernel_rfl) (by kernel_rfl) (by kernel_rfl) (fun _ _ _ h => h) ⟨by rfl, fun w' hS' => (by have s1 := hS'; go_simp)⟩ hS16 ?_
          simp only [List.getElem_toArray, List.getElem_cons_succ, List.getElem_cons_zero, Act.put, List.setIfInBounds_toArray, List.set_cons_zero, List.set_cons_succ]
          refine anyU_ready (rs := [7]) (by kernel_rfl) (by simp) ?_
          refine ReadyU.cons (i := 7) rfl (fun K hK => ?_) ReadyU.nil
          simp only [List.getElem_toArray, List.getElem_cons_succ, List.getElem_cons_zero]
          refine ite_is (by rfl) ?_
          simp [go_sem, hti]
          refine hK.out _ _ ⟨fun _ => hS16, ?_⟩
          clear hK K
          try simp only [List.getElem_toArray, List.getElem_cons_succ, List.getElem_cons_zero, Act.put, List.setIfInBounds_toArray, List.set_cons_zero, List.set_cons_succ]
          have x2d : W15.cell? ⟨bd, od + t, none⟩ = some (.int .i64 dt) := by have := (IntS.at_ D15.out (j := t) (by rw [hdl2]; exact ht)).1; rw [HDT.out] at this; exact this
          have x2e := (IntS.at_ D15.out (j := t) (by rw [hdl2]; exact ht)).2
          have HSD2 := Lib.hid (IntS.set D15.out (j := t) (by rw [hdl2]; exact ht) ((q : Int) + 1))
          refine anyU_ready (rs := [8]) (by kernel_rfl) (by simp) ?_
          refine ReadyU.cons (i := 8) rfl (fun K hK => ?_) ReadyU.nil
          simp only [List.getElem_toArray, List.getElem_cons_succ, List.getElem_cons_zero]
          refine ite_is (by rfl) ?_
          simp [go_sem, x2d, x2e]
          refine hK.out _ _ ⟨fun _ => (BoxN.far bxe15.out (grown_set _ ⟨bd, od + t, none⟩ _) (fun g hg => by injection hg with hg; subst hg; show bd ≠ _; omega)).cell 1 (by simp), ?_⟩
          clear hK K
          try simp only [List.getElem_toArray, List.getElem_cons_succ, List.getElem_cons_zero, Act.put, List.setIfInBounds_toArray, List.set_cons_zero, List.set_cons_succ]
          refine nameU ?_
          intro W17 HW17
          have hg17 : W15.grownBy W17 (some bd) := by rw [HW17.out]; exact grown_set _ _ _
          have hs17 := hg17.size
          have HF17 := Lib.hid (HF15.out.grown hg17 (fun g hg => by cases hg; omega)); clear HF15
          have P17 := Lib.hid (IntS.far P15.out hg17 (by omega) (fun g hg => by cases hg; omega)); clear P15
          have F17 := Lib.hid (IntS.far F15.out hg17 (by omega) (fun g hg => by cases hg; omega)); clear F15
          have NX17 := Lib.hid (OwnI.far NX15.out hg17 (fun g hg => .inl (by cases hg; omega))); clear NX15
          have bxe17 := Lib.hid (BoxN.far bxe15.out hg17 (fun g hg => by cases hg; omega)); clear bxe15
          have hS18 : W17.cell? ⟨wr.heap.size, 1, none⟩ = some (.int .i64 r) := bxe17.out.cell 1 (by simp)
          clear hS16
          have HDN : Hid (IntS W17 W5.heap.size W7.heap.size (.slice (some ⟨bd, od, none⟩) N.ends.length cd) (dep'.set t ((q : Int) + 1))) := by rw [HW17.out]; exact HSD2
          clear HW17 HSD HSD2 x2d x2e D15
          refine anyU_ready (rs := [9]) (by kernel_rfl) (by simp) ?_
          refine ReadyU.cons (i := 9) rfl (fun K hK => ?_) ReadyU.nil
          simp only [List.getElem_toArray, List.getElem_cons_succ, List.getElem_cons_zero]
          refine ite_is (by rfl) ?_
          simp [go_sem, hti]
          refine hK.out _ _ ⟨fun _ => hS18, ?_⟩
          clear hK K
          try simp only [List.getElem_toArray, List.getElem_cons_succ, List.getElem_cons_zero, Act.put, List.setIfInBounds_toArray, List.set_cons_zero, List.set_cons_succ]
          have x3d : W17.cell? ⟨bp, op + t, none⟩ = some (.int .i64 pt) := by have := (IntS.at_ P17.out (j := t) (by rw [hpl2]; exact ht)).1; rw [HPT.out] at this; exact this
          have x3e := (IntS.at_ P17.out (j := t) (by rw [hpl2]; exact ht)).2
          have HSP2 := Lib.hid (IntS.set P17.out (j := t) (by rw [hpl2]; exact ht) (r : Int))
          refine anyU_ready (rs := [10]) (by kernel_rfl) (by simp) ?_
          refine ReadyU.cons (i := 10) rfl (fun K hK => ?_) ReadyU.nil
          simp only [List.getElem_toArray, List.getElem_cons_succ, List.getElem_cons_zero]
          refine ite_is (by rfl) ?_
          simp [go_sem, x3d, x3e]
          refine hK.out _ _ ⟨fun _ => (BoxN.far bxe17.out (grown_set _ ⟨bp, op + t, none⟩ _) (fun g hg => by injection hg with hg; subst hg; show bp ≠ _; omega)).cell 1 (by simp), ?_⟩
          clear hK K
          try simp only [List.getElem_toArray, List.getElem_cons_succ, List.getElem_cons_zero, Act.put, List.setIfInBounds_toArray, List.set_cons_zero, List.set_cons_succ]
          refine nameU ?_
          intro W19 HW19
          have hg19 : W17.grownBy W19 (some bp) := by rw [HW19.out]; exact grown_set _ _ _
          have hs19 := hg19.size
          have HF19 := Lib.hid (HF17.out.grown hg19 (fun g hg => by cases hg; omega)); clear HF17
          have D19 := Lib.hid (IntS.far HDN.out hg19 (by omega) (fun g hg => by cases hg; omega)); clear HDN
          have F19 := Lib.hid (IntS.far F17.out hg19 (by omega) (fun g hg => by cases hg; omega)); clear F17
          have NX19 := Lib.hid (OwnI.far NX17.out hg19 (fun g hg => .inl (by cases hg; omega))); clear NX17
          have bxe19 := Lib.hid (BoxN.far bxe17.out hg19 (fun g hg => by cases hg; omega)); clear bxe17
          have HPN : Hid (IntS W19 W3.heap.size W5.heap.size (.slice (some ⟨bp, op, none⟩) N.ends.length cp) (par'.set t (r : Int))) := by rw [HW19.out]; exact HSP2
          clear HW19 HSP2 x3d x3e P17
          clear hS18
          refine anyU_done (by kernel_rfl) ?_ _
          have hlv2 := NX19.out.lt
          go_wp2_with (at_builtin; refine append_int (s := .tmp 83) Try.underlying23 Try.info3 (by decide) W19 rfl _ rfl NX19.out t _ rfl (by simp [Act.eval, go_sem]) (by omega) (by omega) ?_; intro v' w' ho' hg' hat')
          go_roundw
          case rel =>
            have hgs := hg'.size
            exact ⟨i + 1, _, _, _, by omega, by go_num, by rw [HC2.out]; go_num, Lib.hid (IntS.far HPN.out hg' (by omega) (fun g hg => .inr (by have := hlv2 g hg; omega))), Lib.hid (IntS.far D19.out hg' (by omega) (fun g hg => .inr (by have := hlv2 g hg; omega))), Lib.hid ho', Lib.hid (IntS.far F19.out hg' (by omega) (fun g hg => .inr (by have := hlv2 g hg; omega))), HMN, HXN2, by omega, Lib.hid (HF19.out.grown hg' fun g hg => .inr (by have := hlv2 g hg; omega))⟩
          case measure => simp [intOf]; omega
        by_cases hdq : dt = (q : Int) + 1
        case pos =>
          have hdq' : (dt == (q : Int) + 1) = true := by simpa using hdq
          have hmn : min pt (r : Int) = if (r : Int) < pt then (r : Int) else pt := by by_cases h9 : (r : Int) < pt <;> simp only [h9, if_true, if_false] <;> omega
          have HMN := Lib.hid (HM.out.less HG.out hv hil ETr.out ht (fun x hx => (hdlow.out x hx).2) (by rw [HDT.out]; exact hdq))
          rw [← HMW.out, HPT.out] at HMN
          obtain ⟨mn, HMNN⟩ : ∃ y, Hid (min pt (r : Int) = y) := ⟨_, Lib.hid rfl⟩
          rw [HMNN.out] at HMN
          clear hdq hmn
          go_wp2_with fail
          clear x1 kbxe_0 kbxe_1
          refine wp_region_U (fun w' => w'.cell? ⟨bp, op + t, none⟩ = some (.int .i64 pt) ∧ w'.cell? ⟨wr.heap.size, 1, none⟩ = some (.int .i64 r)) [9, 10] (by kernel_rfl) ?_
          refine nameU ?_
          intro W20 HW20
          have hg20 : W14.grownBy W20 none := by rw [HW20.out]; exact grown_drew _
          clear HW20
          have hs20 := hg20.size
          have HF20 := Lib.hid (HF14.out.still hg20); clear HF14
          have P20 := Lib.hid (IntS.still P14.out hg20 (by omega)); clear P14
          have D20 := Lib.hid (IntS.still D14.out hg20 (by omega)); clear D14
          have F20 := Lib.hid (IntS.still F14.out hg20 (by omega)); clear F14
          have NX20 := Lib.hid (OwnI.still NX14.out hg20); clear NX14
          have bxe20 := Lib.hid (BoxN.still bxe14.out hg20); clear bxe14
          have hS21 : W20.cell? ⟨bp, op + t, none⟩ = some (.int .i64 pt) ∧ W20.cell? ⟨wr.heap.size, 1, none⟩ = some (.int .i64 r) := ⟨(by have := (IntS.at_ P20.out (j := t) (by rw [hpl2]; exact ht)).1; rw [HPT.out] at this; exact this), bxe20.out.cell 1 (by simp)⟩
          refine anyU_take (i := 0) (v := .slice (some ⟨bp, op, none⟩) N.ends.length cp) rfl (by kernel_rfl) (by kernel_rfl) (by kernel_rfl) (fun _ _ _ h => h) ⟨by rfl, fun w' hS' => (by obtain ⟨s1, s2⟩ := hS'; go_simp)⟩ hS21 ?_
          simp only [List.getElem_toArray, List.getElem_cons_zero, Act.put, List.setIfInBounds_toArray, List.set_cons_zero, List.set_cons_succ]
          refine anyU_take (i := 1) (v := .int .i64 t) rfl (by kernel_rfl) (by kernel_rfl) (by kernel_rfl) (fun _ _ _ h => h) ⟨by rfl, fun w' hS' => (by obtain ⟨s1, s2⟩ := hS'; go_simp)⟩ hS21 ?_
          simp only [List.getElem_toArray, List.getElem_cons_succ, List.getElem_cons_zero, Act.put, List.setIfInBounds_toArray, List.set_cons_zero, List.set_cons_succ]
          refine anyU_take (i := 2) (v := .slice (some ⟨bp, op, none⟩) N.ends.length cp) rfl (by kernel_rfl) (by kernel_rfl) (by kernel_rfl) (fun _ _ _ h => h) ⟨by rfl, fun w' hS' => (by obtain ⟨s1, s2⟩ := hS'; go_simp)⟩ hS21 ?_
          simp only [List.getElem_toArray, List.getElem_cons_succ, List.getElem_cons_zero, Act.put, List.setIfInBounds_toArray, List.set_cons_zero, List.set_cons_succ]
          refine anyU_take (i := 3) (v := .int .i64 t) rfl (by kernel_rfl) (by kernel_rfl) (by kernel_rfl) (fun _ _ _ h => h) ⟨by rfl, fun w' hS' => (by obtain ⟨s1, s2⟩ := hS'; go_simp)⟩ hS21 ?_
          simp only [List.getElem_toArray, List.getElem_cons_succ, List.getElem_cons_zero, Act.put, List.setIfInBounds_toArray, List.set_cons_zero, List.set_cons_succ]
          refine anyU_take (i := 4) (v := .pointer (some ⟨bp, op + t, none⟩)) rfl (by kernel_rfl) (by kernel_rfl) (by kernel_rfl) (fun _ _ _ h => h) ⟨by rfl, fun w' hS' => (by obtain ⟨s1, s2⟩ := hS'; simp [go_sem, hti])⟩ hS21 ?_
          simp only [List.getElem_toArray, List.getElem_cons_succ, List.getElem_cons_zero, Act.put, List.setIfInBounds_toArray, List.set_cons_zero, List.set_cons_succ]
          refine anyU_take (i := 5) (v := .int .i64 pt) rfl (by kernel_rfl) (by kernel_rfl) (by kernel_rfl) (fun _ _ _ h => h) ⟨by rfl, fun w' hS' => (by obtain ⟨s1, s2⟩ := hS'; go_simp)⟩ hS21 ?_
          simp only [List.getElem_toArray, List.getElem_cons_succ, List.getElem_cons_zero, Act.put, List.setIfInBounds_toArray, List.set_cons_zero, List.set_cons_succ]
          refine anyU_take (i := 6) (v := .pointer (some ⟨wr.heap.size, 1, none⟩)) rfl (by kernel_rfl) (by kernel_rfl) (by kernel_rfl) (fun _ _ _ h => h) ⟨by rfl, fun w' hS' => (by obtain ⟨s1, s2⟩ := hS'; go_simp)⟩ hS21 ?_
          simp only [List.getElem_toArray, List.getElem_cons_succ, List.getElem_cons_zero, Act.put, List.setIfInBounds_toArray, List.set_cons_zero, List.set_cons_succ]
          refine anyU_take (i := 7) (v := .int .i64 r) rfl (by kernel_rfl) (by kernel_rfl) (by kernel_rfl) (fun _ _ _ h => h) ⟨by rfl, fun w' hS' => (by obtain ⟨s1, s2⟩ := hS'; go_simp)⟩ hS21 ?_
          simp only [List.getElem_toArray, List.getElem_cons_succ, List.getElem_cons_zero, Act.put, List.setIfInBounds_toArray, List.set_cons_zero, List.set_cons_succ]
          refine anyU_take (i := 8) (v := .int .i64 mn) rfl (by kernel_rfl) (by kernel_rfl) (by kernel_rfl) (fun _ _ _ h => h) ⟨by rfl, fun w' hS' => (by obtain ⟨s1, s2⟩ := hS'; simp [go_sem, HMNN.out])⟩ hS21 ?_
          simp only [List.getElem_toArray, List.getElem_cons_succ, List.getElem_cons_zero, Act.put, List.setIfInBounds_toArray, List.set_cons_zero, List.set_cons_succ]
          refine anyU_ready (rs := [9]) (by kernel_rfl) (by simp) ?_
          refine ReadyU.cons (i := 9) rfl (fun K hK => ?_) ReadyU.nil
          simp only [List.getElem_toArray, List.getElem_cons_succ, List.getElem_cons_zero]
          refine ite_is (by rfl) ?_
          simp [go_sem, hti]
          refine hK.out _ _ ⟨fun h => absurd h (by decide), ?_⟩
          clear hK K
          try simp only [List.getElem_toArray, List.getElem_cons_succ, List.getElem_cons_zero, Act.put, List.setIfInBounds_toArray, List.set_cons_zero, List.set_cons_succ]
          have x3d : W20.cell? ⟨bp, op + t, none⟩ = some (.int .i64 pt) := by have := (IntS.at_ P20.out (j := t) (by rw [hpl2]; exact ht)).1; rw [HPT.out] at this; exact this
          have x3e := (IntS.at_ P20.out (j := t) (by rw [hpl2]; exact ht)).2
          have HSP2 := Lib.hid (IntS.set P20.out (j := t) (by rw [hpl2]; exact ht) mn)
          refine anyU_ready (rs := [10]) (by kernel_rfl) (by simp) ?_
          refine ReadyU.cons (i := 10) rfl (fun K hK => ?_) ReadyU.nil
          simp only [List.getElem_toArray, List.getElem_cons_succ, List.getElem_cons_zero]
          refine ite_is (by rfl) ?_
          simp [go_sem, x3d, x3e]
          refine hK.out _ _ ⟨fun h => absurd h (by decide), ?_⟩
          clear hK K
          try simp only [List.getElem_toArray, List.getElem_cons_succ, List.getElem_cons_zero, Act.put, List.setIfInBounds_toArray, List.set_cons_zero, List.set_cons_succ]
          refine nameU ?_
          intro W22 HW22
          have hg22 : W20.grownBy W22 (some bp) := by rw [HW22.out]; exact grown_set _ _ _
          have hs22 := hg22.size
          have HF22 := Lib.hid (HF20.out.grown hg22 (fun g hg => by cases hg; omega)); clear HF20
          have D22 := Lib.hid (IntS.far D20.out hg22 (by omega) (fun g hg => by cases hg; omega)); clear D20
          have F22 := Lib.hid (IntS.far F20.out hg22 (by omega) (fun g hg => by cases hg; omega)); clear F20
          have NX22 := Lib.hid (OwnI.far NX20.out hg22 (fun g hg => .inl (by cases hg; omega))); clear NX20
          have bxe22 := Lib.hid (BoxN.far bxe20.out hg22 (fun g hg => by cases hg; omega)); clear bxe20
          have HPN : Hid (IntS W22 W3.heap.size W5.heap.size (.slice (some ⟨bp, op, none⟩) N.ends.length cp) (par'.set t mn)) := by rw [HW22.out]; exact HSP2
          clear HW22 HSP2 x3d x3e P20
          clear hS21
          refine anyU_done (by kernel_rfl) ?_ _
          go_wp2_with fail
          go_roundw
          case rel => exact ⟨i + 1, _, _, _, by omega, by go_num, by rw [HC2.out]; go_num, HPN, D22, NX22, F22, HMN, HXN, by omega, HF22⟩
          case measure => simp [intOf]; omega
        have hdq' : (dt == (q : Int) + 1) = false := by simpa using hdq
        have HMN := Lib.hid (HM.out.same HG.out hv hil ETr.out ht (by rw [HDT.out]; exact hdt) (by rw [HDT.out]; exact hdq))
        rw [← HMW.out] at HMN
        clear hdq
        go_wp2_with fail
        go_roundw
        case rel => exact ⟨i + 1, _, _, _, by omega, by go_num, by rw [HC2.out]; go_num, P14, D14, NX14, F14, HMN, HXN, by omega, HF14⟩
        case measure => simp [intOf]; omega

end Go.Proofs.Ytoebgfmnjjiddaa
