/-
  Contracts: the reference's taIf and MergeTables.
-/
import Derived.Test.YtlfdhhmccjkogaaMrgS
namespace Go.Proofs.Ytlfdhhmccjkogaa
open Go.ChangeShapes Go.WideShapes Go.ChangeAt Go.RowKit
set_option linter.unusedVariables false

theorem turned_below {B lo hi : Nat} {w A W : World} (h : Turned lo hi A W) (hb : Below B w A) (h1 : B ≤ lo) (h2 : B ≤ A.heap.size) : Below B w W :=
  ⟨h.os.trans hb.os, h.tape.trans hb.tape, h.output.trans hb.output, Nat.le_trans hb.size h.size, fun k hk => (h.block k (by omega) (by omega)).trans (hb.block k hk)⟩
theorem tabZ_at (w : World) (lo hi : Nat) : Tab w lo hi (.agg #[.int .i64 0, .slice none 0 0]) tabZ := ⟨none, 0, rfl, RowS.nil _ _ _⟩
theorem tab_few {T : TabD} (h : tabGood T = true) : T.rows.length ≤ 60 := by
  unfold tabGood at h
  simp only [Bool.and_eq_true, decide_eq_true_eq] at h
  exact h.1.2
theorem OwnR.at_ {w : World} {base k : Nat} {e : TypeId} {v : Value} {l : List (ByteArray × Int)} (h : OwnR w base e v l) (hk : v.ownBlock = some k) : ∃ c, v = .slice (some ⟨k, 0, none⟩) l.length c ∧ RowS w k (k + 1) v l ∧ base ≤ k ∧ k < w.heap.size := by
  obtain ⟨h1, h2⟩ := h.lt k hk
  have hr := h.rows
  rcases h.2 with ⟨rfl, _⟩ | ⟨g, cap, cur, rfl, _⟩
  · cases hk
  · obtain rfl : g = k := by injection hk
    refine ⟨cap, rfl, ?_, h1, h2⟩
    obtain ⟨A, c, e, h3, h4, h5⟩ := hr
    refine ⟨A, c, e, h3, h4, fun hn => ?_⟩
    obtain ⟨b, off, e2, h6, h7, h8⟩ := h5 hn
    subst e2
    injection e with e
    injection e with e
    injection e with e
    subst e
    exact ⟨g, off, rfl, Nat.le_refl _, Nat.lt_succ_self _, h8⟩
theorem putsR_end {A l : List Rw} {k : Nat} (h : putsR A (l.take k) = none) : putsR A l = none := by
  have := putsR_none h (l.drop k)
  rwa [List.take_append_drop] at this
theorem mergeS_none {a b : TabD} (h1 : tabGood a = true) (h2 : tabGood b = true) (h3 : a.depth = b.depth) (h : putsR a.rows b.rows = none) : mergeS a b = (tabZ, false) := by
  unfold mergeS; rw [h1, h2, h3, h]; simp
theorem mergeS_some {a b : TabD} {M : List Rw} (h1 : tabGood a = true) (h2 : tabGood b = true) (h3 : a.depth = b.depth) (h : putsR a.rows b.rows = some M) : mergeS a b = ifTab ⟨a.depth, M⟩ := by
  unfold mergeS; rw [h1, h2, h3, h]; simp
theorem putR_len {M M' : List Rw} {r : Rw} (h : putR M r = some M') : M'.length ≤ M.length + 1 := by
  unfold putR at h
  split at h
  · split at h
    · injection h with h; subst h; omega
    · cases h
  · injection h with h; subst h; simp; omega

set_option maxHeartbeats 2000000 in
set_option maxRecDepth 100000 in
theorem taIf_any (v : Value) (T : TabD) (lo hi : Nat) (w : World) (h : Tab w lo hi v T) (hh : hi ≤ w.heap.size) :
    Calls Try.prog 14 #[v] w fun e w' => ∃ rv, e = .returned (.tuple #[rv, .bool (ifTab T).2]) ∧ Tab w' lo hi rv (ifTab T).1 ∧ Below w.heap.size w w' := by
  have F1 := Lib.hid h
  obtain ⟨A, c, rfl, hr⟩ := h
  have G1 := Lib.hid hr
  clear hr
  obtain ⟨R, HR⟩ : ∃ R, Hid (ifTab T = R) := ⟨_, Lib.hid rfl⟩
  obtain ⟨n, HN⟩ : ∃ n, Hid (T.rows.length = n) := ⟨_, Lib.hid rfl⟩
  obtain ⟨dd, HD⟩ : ∃ n, Hid (T.depth = n) := ⟨_, Lib.hid rfl⟩
  rw [HR.out]
  rw [HN.out, HD.out] at F1 ⊢
  rw [HN.out] at G1
  go_enter Try.func14, Try.ntmps14
  go_upto_region 1 with fail
  refine nameC ?_
  intro W HW
  have HB1 := Lib.hid (show BoxN W w.heap.size #[.int .i64 dd, .slice A n c] 28 by rw [HW.out]; exact (BoxN.new w _ _).still (grown_alloc _ _))
  have HB2 := Lib.hid (show BoxN W (w.heap.size + 1) #[.int .i64 0, .slice none 0 0] 28 by rw [HW.out]; exact BoxN.new' _ _ _ (by simp))
  have HBW := Lib.hid (show Below w.heap.size w W by rw [HW.out]; exact below_a2 _ _ _)
  have hsW : w.heap.size + 2 ≤ W.heap.size := by rw [HW.out]; simp
  have HT := Lib.hid (F1.out.below HBW.out hh)
  have HG := Lib.hid (G1.out.below HBW.out hh)
  have c10 : W.cell? ⟨w.heap.size, 0, none⟩ = some (.int .i64 dd) := HB1.out.cell 0 (by simp)
  have c11 : W.cell? ⟨w.heap.size, 1, none⟩ = some (.slice A n c) := HB1.out.cell 1 (by simp)
  clear HW
  cases hg : tabGood T with
  | false =>
    obtain rfl : R = (tabZ, false) := by rw [← HR.out]; unfold ifTab; rw [hg]; rfl
    go_upto_region 2 with (go_at_call 12; refine (taGood_any _ T _ _ W HT.out (by omega)).mono ?_; rw [hg]; rintro e w1 ⟨rfl, hb1⟩; have H1 := Lib.hid hb1; have hs1 := hb1.size; clear hb1)
    have B2 := HB2.out.below H1.out (by omega)
    have k20 := B2.cell 0 (by simp)
    have k21 := B2.cell 1 (by simp)
    have kf := B2.frozen
    go_wp2_with fail
    (try simp only [Exit.inBlock, Exit.then])
    refine bodyPost_ret (results_tab rfl _ _ _ _ _ rfl (box_store B2)) rfl ?_
    exact ⟨_, rfl, tabZ_at _ _ _, below_store (HBW.out.trans (H1.out.mono (by omega))) (by omega)⟩
  | true =>
    obtain rfl : R = (T, true) := by rw [← HR.out]; unfold ifTab; rw [if_pos hg]
    go_upto_region 3 with (go_at_call 12; refine (taGood_any _ T _ _ W HT.out (by omega)).mono ?_; rw [hg]; rintro e w1 ⟨rfl, hb1⟩; have H1 := Lib.hid hb1; have hs1 := hb1.size; clear hb1)
    clear c10 c11
    have B1 := HB1.out.below H1.out (by omega)
    have B2 := HB2.out.below H1.out (by omega)
    have k10 := B1.cell 0 (by simp)
    have k11 := B1.cell 1 (by simp)
    have k20 := B2.cell 0 (by simp)
    have k21 := B2.cell 1 (by simp)
    have kf := B2.frozen
    go_wp2_with fail
    (try simp only [Exit.inBlock, Exit.then])
    refine bodyPost_ret (results_tab rfl _ _ _ _ _ rfl (box_store B2)) rfl ?_
    refine ⟨_, rfl, ⟨A, c, by rw [HN.out, HD.out], ?_⟩, below_store (HBW.out.trans (H1.out.mono (by omega))) (by omega)⟩
    rw [HN.out]
    exact (((HG.out.below H1.out (by omega)).setCell (.inr (by show hi ≤ w.heap.size + 1; omega)) _).setCell (.inr (by show hi ≤ w.heap.size + 1; omega)) _)

set_option maxHeartbeats 8000000 in
set_option maxRecDepth 100000 in
theorem MergeTables_spec0 (v1 : Value) (a : TabD) (lo1 hi1 : Nat) (v2 : Value) (b : TabD) (lo2 hi2 : Nat) (w : World) (h1 : Tab w lo1 hi1 v1 a) (hh1 : hi1 ≤ w.heap.size) (h2 : Tab w lo2 hi2 v2 b) (hh2 : hi2 ≤ w.heap.size) :
    Calls Try.prog 5 #[v1, v2] w fun e w' => ∃ rv, e = .returned (.tuple #[rv, .bool (mergeS a b).2]) ∧ Tab w' w.heap.size w'.heap.size rv (mergeS a b).1 ∧ Below w.heap.size w w' := by
  have F1 := Lib.hid h1
  have F2 := Lib.hid h2
  obtain ⟨A1, c1, rfl, hr1⟩ := h1
  obtain ⟨A2, c2, rfl, hr2⟩ := h2
  have G1 := Lib.hid hr1
  have G2 := Lib.hid hr2
  clear hr1 hr2
  obtain ⟨R, HR⟩ : ∃ R, Hid (mergeS a b = R) := ⟨_, Lib.hid rfl⟩
  obtain ⟨n1, HN1⟩ : ∃ n, Hid (a.rows.length = n) := ⟨_, Lib.hid rfl⟩
  obtain ⟨n2, HN2⟩ : ∃ n, Hid (b.rows.length = n) := ⟨_, Lib.hid rfl⟩
  obtain ⟨d1, HD1⟩ : ∃ n, Hid (a.depth = n) := ⟨_, Lib.hid rfl⟩
  obtain ⟨d2, HD2⟩ : ∃ n, Hid (b.depth = n) := ⟨_, Lib.hid rfl⟩
  rw [HR.out]
  rw [HN1.out, HD1.out] at F1
  rw [HN2.out, HD2.out] at F2
  rw [HN1.out] at G1
  rw [HN2.out] at G2
  rw [HN1.out, HN2.out, HD1.out, HD2.out]
  go_enter Try.func5, Try.ntmps5
  go_upto_region 1 with fail
  refine nameC ?_
  intro W HW
  have HB2 := Lib.hid (show BoxN W w.heap.size #[.int .i64 d1, .slice A1 n1 c1] 28 by rw [HW.out]; exact ((BoxN.new w _ _).still (grown_alloc _ _)).still (grown_alloc _ _))
  have HB3 := Lib.hid (show BoxN W (w.heap.size + 1) #[.int .i64 d2, .slice A2 n2 c2] 28 by rw [HW.out]; exact (BoxN.new' _ _ _ (by simp)).still (grown_alloc _ _))
  have HB4 := Lib.hid (show BoxN W (w.heap.size + 1 + 1) #[.int .i64 0, .slice none 0 0] 28 by rw [HW.out]; exact BoxN.new' _ _ _ (by simp))
  have HBW := Lib.hid (show Below w.heap.size w W by rw [HW.out]; exact below_a3 _ _ _ _)
  have hsW : w.heap.size + 3 ≤ W.heap.size := by rw [HW.out]; simp
  have HT1 := Lib.hid (F1.out.below HBW.out hh1)
  have HT2 := Lib.hid (F2.out.below HBW.out hh2)
  have HG1 := Lib.hid (G1.out.below HBW.out hh1)
  have HG2 := Lib.hid (G2.out.below HBW.out hh2)
  have c20 : W.cell? ⟨w.heap.size, 0, none⟩ = some (.int .i64 d1) := HB2.out.cell 0 (by simp)
  have c21 : W.cell? ⟨w.heap.size, 1, none⟩ = some (.slice A1 n1 c1) := HB2.out.cell 1 (by simp)
  clear HW
  cases hga : tabGood a with
  | false =>
    obtain rfl : R = (tabZ, false) := by rw [← HR.out]; unfold mergeS; rw [hga]; rfl
    go_upto_region 2 with (go_at_call 12; refine (taGood_any _ a _ _ W HT1.out (by omega)).mono ?_; rw [hga]; rintro e w1 ⟨rfl, hb1⟩; have H1 := Lib.hid hb1; have hs1 := hb1.size; have c30 := (HB3.out.below hb1 (by omega)).cell 0 (by simp); have c31 := (HB3.out.below hb1 (by omega)).cell 1 (by simp); clear hb1)
    have B4 := HB4.out.below H1.out (by omega)
    have k40 := B4.cell 0 (by simp)
    have k41 := B4.cell 1 (by simp)
    have kf := B4.frozen
    go_wp2_with fail
    (try simp only [Exit.inBlock, Exit.then])
    refine bodyPost_ret (results_tab rfl _ _ _ _ _ rfl (box_store B4)) rfl ?_
    exact ⟨_, rfl, tabZ_at _ _ _, below_store (HBW.out.trans (H1.out.mono (by omega))) (by omega)⟩
  | true =>
  cases hgb : tabGood b with
  | false =>
    obtain rfl : R = (tabZ, false) := by rw [← HR.out]; unfold mergeS; rw [hgb, Bool.and_false]; rfl
    go_upto_region 2 with (first | (go_at_call 12; refine (taGood_any _ b _ _ w1 (HT2.out.below H1.out (by omega)) (by omega)).mono ?_; rw [hgb]; rintro e w2 ⟨rfl, hb2⟩; have H2 := Lib.hid (H1.out.trans (hb2.mono hs1)); have hs2 := H2.out.size; have e20 := (HB2.out.below H2.out (by omega)).cell 0 (by simp); have e30 := (HB3.out.below H2.out (by omega)).cell 0 (by simp); clear hb2) | (go_at_call 12; refine (taGood_any _ a _ _ W HT1.out (by omega)).mono ?_; rw [hga]; rintro e w1 ⟨rfl, hb1⟩; have H1 := Lib.hid hb1; have hs1 := hb1.size; have c30 := (HB3.out.below hb1 (by omega)).cell 0 (by simp); have c31 := (HB3.out.below hb1 (by omega)).cell 1 (by simp); clear hb1))
    have B4 := HB4.out.below H2.out (by omega)
    have k40 := B4.cell 0 (by simp)
    have k41 := B4.cell 1 (by simp)
    have kf := B4.frozen
    go_wp2_with fail
    (try simp only [Exit.inBlock, Exit.then])
    refine bodyPost_ret (results_tab rfl _ _ _ _ _ rfl (box_store B4)) rfl ?_
    exact ⟨_, rfl, tabZ_at _ _ _, below_store (HBW.out.trans (H2.out.mono (by omega))) (by omega)⟩
  | true =>
  by_cases hd : d1 = d2
  case neg =>
    have hde : (d1 != d2) = true := by simpa using hd
    obtain rfl : R = (tabZ, false) := by rw [← HR.out]; unfold mergeS; rw [HD1.out, HD2.out]; simp [hd]
    go_upto_region 2 with (first | (go_at_call 12; refine (taGood_any _ b _ _ w1 (HT2.out.below H1.out (by omega)) (by omega)).mono ?_; rw [hgb]; rintro e w2 ⟨rfl, hb2⟩; have H2 := Lib.hid (H1.out.trans (hb2.mono hs1)); have hs2 := H2.out.size; have e20 := (HB2.out.below H2.out (by omega)).cell 0 (by simp); have e30 := (HB3.out.below H2.out (by omega)).cell 0 (by simp); clear hb2) | (go_at_call 12; refine (taGood_any _ a _ _ W HT1.out (by omega)).mono ?_; rw [hga]; rintro e w1 ⟨rfl, hb1⟩; have H1 := Lib.hid hb1; have hs1 := hb1.size; have c30 := (HB3.out.below hb1 (by omega)).cell 0 (by simp); have c31 := (HB3.out.below hb1 (by omega)).cell 1 (by simp); clear hb1))
    have B4 := HB4.out.below H2.out (by omega)
    have k40 := B4.cell 0 (by simp)
    have k41 := B4.cell 1 (by simp)
    have kf := B4.frozen
    go_wp2_with fail
    (try simp only [Exit.inBlock, Exit.then])
    refine bodyPost_ret (results_tab rfl _ _ _ _ _ rfl (box_store B4)) rfl ?_
    exact ⟨_, rfl, tabZ_at _ _ _, below_store (HBW.out.trans (H2.out.mono (by omega))) (by omega)⟩
  subst hd
  have HNO := Lib.hid (fun h : putsR a.rows b.rows = none => (HR.out).symm.trans (mergeS_none hga hgb (HD1.out.trans HD2.out.symm) h))
  have HYES := Lib.hid (fun M (h : putsR a.rows b.rows = some M) => (HR.out).symm.trans (mergeS_some hga hgb (HD1.out.trans HD2.out.symm) h))
  rw [HD1.out] at HYES
  have hr1 : n1 ≤ 60 := by
    rw [← HN1.out]; exact tab_few hga
  have hr2 : n2 ≤ 60 := by
    rw [← HN2.out]; exact tab_few hgb
  go_upto_region 3 with (first | (go_at_call 12; refine (taGood_any _ b _ _ w1 (HT2.out.below H1.out (by omega)) (by omega)).mono ?_; rw [hgb]; rintro e w2 ⟨rfl, hb2⟩; have H2 := Lib.hid (H1.out.trans (hb2.mono hs1)); have hs2 := H2.out.size; have e20 := (HB2.out.below H2.out (by omega)).cell 0 (by simp); have e30 := (HB3.out.below H2.out (by omega)).cell 0 (by simp); clear hb2) | (go_at_call 12; refine (taGood_any _ a _ _ W HT1.out (by omega)).mono ?_; rw [hga]; rintro e w1 ⟨rfl, hb1⟩; have H1 := Lib.hid hb1; have hs1 := hb1.size; have c30 := (HB3.out.below hb1 (by omega)).cell 0 (by simp); have c31 := (HB3.out.below hb1 (by omega)).cell 1 (by simp); clear hb1))
  clear c20 c21 c30 c31 e20 e30
  refine wp_region_U (fun w' => w'.cell? ⟨w.heap.size, 0, none⟩ = some (.int .i64 d1) ∧ w'.cell? ⟨w.heap.size, 1, none⟩ = some (.slice A1 n1 c1)) [8] (by kernel_rfl) ?_
  refine nameU ?_
  intro V HV
  have HV0 := Lib.hid (show Below W.heap.size W V by rw [HV.out]; (first | exact H2.out | exact below_drewN H2.out 1))
  have hsV := HV0.out.size
  clear HV
  have D2 := HB2.out.below HV0.out (by omega)
  have hS0 : V.cell? ⟨w.heap.size, 0, none⟩ = some (.int .i64 d1) ∧ V.cell? ⟨w.heap.size, 1, none⟩ = some (.slice A1 n1 c1) := ⟨D2.cell 0 (by simp), D2.cell 1 (by simp)⟩
  refine anyU_take (i := 0) (v := .pointer (some ⟨w.heap.size, 0, none⟩)) rfl (by kernel_rfl) (by kernel_rfl) (by kernel_rfl) (fun _ _ _ h => h) ⟨by rfl, fun w' hS' => (by obtain ⟨k1, k2⟩ := hS'; go_simp)⟩ hS0 ?_
  simp only [List.getElem_toArray, List.getElem_cons_zero, Act.put, List.setIfInBounds_toArray, List.set_cons_zero, List.set_cons_succ]
  refine anyU_take (i := 1) (v := .int .i64 d1) rfl (by kernel_rfl) (by kernel_rfl) (by kernel_rfl) (fun _ _ _ h => h) ⟨by rfl, fun w' hS' => (by obtain ⟨k1, k2⟩ := hS'; go_simp)⟩ hS0 ?_
  simp only [List.getElem_toArray, List.getElem_cons_succ, List.getElem_cons_zero, Act.put, List.setIfInBounds_toArray, List.set_cons_zero, List.set_cons_succ]
  refine anyU_take (i := 3) (v := .pointer (some ⟨w.heap.size, 1, none⟩)) rfl (by kernel_rfl) (by kernel_rfl) (by kernel_rfl) (fun _ _ _ h => h) ⟨by rfl, fun w' hS' => (by obtain ⟨k1, k2⟩ := hS'; go_simp)⟩ hS0 ?_
  simp only [List.getElem_toArray, List.getElem_cons_succ, List.getElem_cons_zero, Act.put, List.setIfInBounds_toArray, List.set_cons_zero, List.set_cons_succ]
  refine anyU_take (i := 4) (v := .slice A1 n1 c1) rfl (by kernel_rfl) (by kernel_rfl) (by kernel_rfl) (fun _ _ _ h => h) ⟨by rfl, fun w' hS' => (by obtain ⟨k1, k2⟩ := hS'; go_simp)⟩ hS0 ?_
  simp only [List.getElem_toArray, List.getElem_cons_succ, List.getElem_cons_zero, Act.put, List.setIfInBounds_toArray, List.set_cons_zero, List.set_cons_succ]
  refine anyU_ready (rs := [2, 7]) (by kernel_rfl) (by simp) ?_
  refine ReadyU.cons (i := 2) rfl (fun K hK => ?_) (ReadyU.cons (i := 7) rfl (fun K hK => ?_) ReadyU.nil)
  · simp only [List.getElem_toArray, List.getElem_cons_succ, List.getElem_cons_zero]
    refine ite_is (by rfl) ?_
    simp [go_sem]
    have hb1 := HV0.out.alloc hsV (.cells #[] 38)
    have E1 := HB2.out.below hb1 (by omega)
    have hS1 : (V.alloc (.cells #[] 38)).cell? ⟨w.heap.size, 0, none⟩ = some (.int .i64 d1) ∧ (V.alloc (.cells #[] 38)).cell? ⟨w.heap.size, 1, none⟩ = some (.slice A1 n1 c1) := ⟨E1.cell 0 (by simp), E1.cell 1 (by simp)⟩
    refine hK.out _ _ ⟨fun _ => hS1, ?_⟩
    clear hK K
    try simp only [List.getElem_toArray, List.getElem_cons_succ, List.getElem_cons_zero, Act.put, List.setIfInBounds_toArray, List.set_cons_zero, List.set_cons_succ]
    refine nameU ?_
    intro X1 HX1
    rw [← HX1.out] at hb1 hS1
    have HBL1 := Lib.hid hb1
    have hs1 := hb1.size
    have hz1 : X1.heap.size = V.heap.size + 1 := by rw [HX1.out]; simp
    have OW1 := Lib.hid (show OwnR X1 W.heap.size 38 (.slice (some ⟨V.heap.size, 0, none⟩) 0 0) [] by rw [HX1.out]; exact OwnR.emptyB _ _ _ rfl hsV)
    clear HX1 hb1
    refine anyU_ready (rs := [5, 7]) (by kernel_rfl) (by simp) ?_
    refine ReadyU.cons (i := 5) rfl (fun K hK => ?_) (ReadyU.cons (i := 7) rfl (fun K hK => ?_) ReadyU.nil)
    · simp only [List.getElem_toArray, List.getElem_cons_succ, List.getElem_cons_zero]
      refine ite_is (by rfl) ?_
      have hne2 : (True) := by trivial
      refine step_append_rows (s := .tmp 29) Try.underlying26 Try.info38 (by decide) (by decide) (.tmp 31) rfl OW1.out rfl (HG1.out.below HBL1.out (by omega)) rfl (by rw [HN1.out]; simp <;> omega) hs1 ?_
      rw [List.nil_append]
      intro v3 X2 ho2 hg2 hob2
      obtain ⟨k2, hk2, hkn2⟩ : ∃ k, v3.ownBlock = some k ∧ (k = V.heap.size ∨ k = X1.heap.size) := by
        rcases hob2 with h | h
        · exact ⟨_, h, .inl rfl⟩
        · exact ⟨_, h, .inr rfl⟩
      obtain ⟨c3, rfl, hrk2, hkb2, hkl2⟩ := ho2.at_ hk2
      rw [HN1.out] at hrk2 ⊢
      have RK2 := Lib.hid hrk2
      have hb2 := HBL1.out.grown hg2 hs1 (fun g hg => (OW1.out.lt g hg).1)
      have HBL2 := Lib.hid hb2
      have hs2 := hb2.size
      have hgs2 := hg2.size
      have HK2 := Lib.hid (show W.heap.size ≤ k2 ∧ k2 < X2.heap.size by omega)
      have E2 := HB2.out.below hb2 (by omega)
      have hS2 : X2.cell? ⟨w.heap.size, 0, none⟩ = some (.int .i64 d1) ∧ X2.cell? ⟨w.heap.size, 1, none⟩ = some (.slice A1 n1 c1) := ⟨E2.cell 0 (by simp), E2.cell 1 (by simp)⟩
      clear ho2 hg2 hrk2 hb2
      refine hK.out _ _ ⟨fun _ => hS2, ?_⟩
      clear hK K
      try simp only [Act.put, List.setIfInBounds_toArray, List.set_cons_zero, List.set_cons_succ]
      refine anyU_take (i := 6) (v := .agg #[.int .i64 d1, .slice (some ⟨k2, 0, none⟩) n1 c3]) rfl (by kernel_rfl) (by kernel_rfl) (by kernel_rfl) (fun _ _ _ h => h) ⟨by rfl, fun w' hS' => (by obtain ⟨k1, k2⟩ := hS'; go_simp)⟩ hS2 ?_
      simp only [List.getElem_toArray, List.getElem_cons_succ, List.getElem_cons_zero, Act.put, List.setIfInBounds_toArray, List.set_cons_zero, List.set_cons_succ]
      refine anyU_ready (rs := [7]) (by kernel_rfl) (by simp) ?_
      refine ReadyU.cons (i := 7) rfl (fun K hK => ?_) ReadyU.nil
      simp only [List.getElem_toArray, List.getElem_cons_succ, List.getElem_cons_zero]
      refine ite_is (by rfl) ?_
      simp [go_sem]
      have hb3 := HBL2.out.alloc hs2 (.cells #[.int .i64 0, .slice none 0 0] 28)
      have E3 := HB2.out.below hb3 (by omega)
      have hS3 : (X2.alloc (.cells #[.int .i64 0, .slice none 0 0] 28)).cell? ⟨w.heap.size, 0, none⟩ = some (.int .i64 d1) ∧ (X2.alloc (.cells #[.int .i64 0, .slice none 0 0] 28)).cell? ⟨w.heap.size, 1, none⟩ = some (.slice A1 n1 c1) := ⟨E3.cell 0 (by simp), E3.cell 1 (by simp)⟩
      refine hK.out _ _ ⟨fun _ => hS3, ?_⟩
      clear hK K
      try simp only [List.getElem_toArray, List.getElem_cons_succ, List.getElem_cons_zero, Act.put, List.setIfInBounds_toArray, List.set_cons_zero, List.set_cons_succ]
      refine nameU ?_
      intro X3 HX3
      rw [← HX3.out] at hb3 hS3
      have HBL3 := Lib.hid hb3
      have hs3 := hb3.size
      have hz3 : X3.heap.size = X2.heap.size + 1 := by rw [HX3.out]; simp
      have BX3 := Lib.hid (show BoxN X3 X2.heap.size #[.int .i64 0, .slice none 0 0] 28 by rw [HX3.out]; exact BoxN.new _ _ _)
      have RK3 := Lib.hid (show RowS X3 (k2) (k2 + 1) (.slice (some ⟨k2, 0, none⟩) n1 c3) a.rows by rw [HX3.out]; exact Sl.alloc RK2.out (by have := HK2.out; omega) _)
      have HK3 := Lib.hid (show W.heap.size ≤ k2 ∧ k2 < X3.heap.size ∧ k2 ≠ X2.heap.size ∧ W.heap.size ≤ X2.heap.size by have := HK2.out; omega)
      clear HX3 hb3
      obtain ⟨g6, HG6⟩ : ∃ g, Hid (X2.heap.size = g) := ⟨_, Lib.hid rfl⟩
      obtain ⟨gk, HGK⟩ : ∃ g, Hid (k2 = g) := ⟨_, Lib.hid rfl⟩
      have Z6 : BoxN X3 g6 #[.int .i64 0, .slice none 0 0] 28 := by rw [← HG6.out]; exact BX3.out
      have hg6 : W.heap.size ≤ g6 ∧ g6 < X3.heap.size ∧ W.heap.size ≤ gk ∧ gk < X3.heap.size ∧ gk ≠ g6 := by have := HK3.out; rw [← HG6.out, ← HGK.out]; exact ⟨by omega, BX3.out.lt, by omega, by omega, by omega⟩
      have z60 := Z6.cell 0 (by simp)
      have z61 := Z6.cell 1 (by simp)
      have z6f := Z6.frozen
      refine anyU_ready (rs := [8]) (by kernel_rfl) (by simp) ?_
      refine ReadyU.cons (i := 8) rfl (fun K hK => ?_) ReadyU.nil
      simp only [List.getElem_toArray, List.getElem_cons_succ, List.getElem_cons_zero]
      refine ite_is (by rfl) ?_
      rw [HG6.out]
      simp [go_sem, z60, z61, z6f]
      refine hK.out _ _ ⟨fun h => absurd h (by decide), ?_⟩
      clear hK K
      try simp only [List.getElem_toArray, List.getElem_cons_succ, List.getElem_cons_zero, Act.put, List.setIfInBounds_toArray, List.set_cons_zero, List.set_cons_succ]
      refine nameU ?_
      intro Y HY
      have HBY := Lib.hid (show Below W.heap.size W Y by rw [HY.out]; exact below_store HBL3.out hg6.1)
      have BY6 := Lib.hid (show BoxN Y g6 #[.int .i64 d1, .slice (some ⟨gk, 0, none⟩) n1 c3] 28 by rw [HY.out, ← HGK.out]; exact box_store Z6)
      have RY := Lib.hid (show RowS Y gk (gk + 1) (.slice (some ⟨gk, 0, none⟩) n1 c3) a.rows by rw [HY.out, ← HGK.out]; exact (RK3.out.setCell (by have := HGK.out; show g6 < _ ∨ _ ≤ g6; omega) _).setCell (by have := HGK.out; show g6 < _ ∨ _ ≤ g6; omega) _)
      have hsY : X3.heap.size = Y.heap.size := by rw [HY.out]; simp
      rw [hsY] at hg6
      clear z60 z61 z6f Z6 HY
      refine anyU_done (by kernel_rfl) ?_ _
      try (replace hz1 := Nat.le_of_eq (Eq.symm hz1))
      try (replace hz2 := Nat.le_of_eq (Eq.symm hz2))
      try (replace hz3 := Nat.le_of_eq (Eq.symm hz3))
      try (replace hz4 := Nat.le_of_eq (Eq.symm hz4))
      try (replace hz5 := Nat.le_of_eq (Eq.symm hz5))
      try (replace hz6 := Nat.le_of_eq (Eq.symm hz6))
      try (replace hz7 := Nat.le_of_eq (Eq.symm hz7))
      try (replace hz8 := Nat.le_of_eq (Eq.symm hz8))
      try (replace hz9 := Nat.le_of_eq (Eq.symm hz9))
      try (replace hz10 := Nat.le_of_eq (Eq.symm hz10))
      try (replace hz11 := Nat.le_of_eq (Eq.symm hz11))
      have e31 := (HB3.out.below HBY.out (by omega)).cell 1 (by simp)
      have hi31 : n2 ≤ n2 := Nat.le_refl _
      go_upto_region 5 with fail
      clear e31
      go_loopw [37] (fun i wr => ∃ (k : Nat) (M : List Rw) (A : Option Addr) (c m lo hi : Nat), k ≤ n2 ∧ i = .int .i64 k ∧ Hid (putsR a.rows (b.rows.take k) = some M) ∧ Hid (M.length = m) ∧ m ≤ n1 + k ∧ Hid (Turned g6 (g6 + 1) Y wr) ∧ Hid (BoxN wr g6 #[.int .i64 d1, .slice A m c] 28) ∧ Hid (RowS wr lo hi (.slice A m c) M) ∧ Hid (PlainA A) ∧ hi ≤ wr.heap.size ∧ W.heap.size ≤ lo ∧ (hi ≤ g6 ∨ g6 < lo)) (fun i _ => n2 - (intOf i).toNat)
      case atStart => exact ⟨0, a.rows, _, c3, n1, gk, gk + 1, Nat.zero_le _, rfl, Lib.hid rfl, HN1, Nat.le_refl _, Lib.hid (Turned.refl _ _ _), BY6, RY, Lib.hid (.inr ⟨gk, 0, rfl⟩), by omega, by omega, by omega⟩
      case round =>
        clear BY6 RY
        obtain ⟨k, M, A, c, m, lo, hi, hk, rfl, HPU, HM, hmk, HT, HX, HRW, HPL, hhi, hlo, hout⟩ := hrel
        have hsr := HT.out.size
        have HBr := Lib.hid (turned_below HT.out HBY.out hg6.1 HBY.out.size)
        by_cases hlt : k < n2
        · obtain ⟨A', c', he, hc1', hc2', hcell⟩ := (HG2.out.below HBr.out (by omega)).form
          rw [HN2.out] at he hc1' hcell
          obtain ⟨rfl, rfl⟩ : A2 = A' ∧ c2 = c' := by injection he with h1 _ h2; exact ⟨h1, h2⟩
          obtain ⟨b', off, rfl, hb1, hb2, hcs⟩ := hcell (by omega)
          obtain ⟨x1, x2⟩ := hcs k hlt
          clear hcs hcell he
          obtain ⟨s, HS⟩ : ∃ s, Hid ((nthR b.rows k).1 = s) := ⟨_, Lib.hid rfl⟩
          obtain ⟨o, HO⟩ : ∃ s, Hid ((nthR b.rows k).2 = s) := ⟨_, Lib.hid rfl⟩
          rw [HS.out] at x1
          rw [HO.out] at x2
          have HNX := Lib.hid (show putsR a.rows (b.rows.take (k + 1)) = putR M (s, o) by
            have hk' : k < b.rows.length := by rw [HN2.out]; exact hlt
            rw [List.take_succ_eq_append_getElem hk', putsR_snoc, HPU.out, Option.bind_some, ← HS.out, ← HO.out, nthR_eq hk'])
          go_upto_region 7 with fail
          clear x1 x2
          refine nameC ?_
          intro X HXX
          have HB8 := Lib.hid (show BoxN X wr.heap.size #[.string s, .int .i64 o] 38 by rw [HXX.out]; exact BoxN.new _ _ _)
          have hbX : Below wr.heap.size wr X := by rw [HXX.out]; exact below_a1 _ _
          have hsX : wr.heap.size + 1 ≤ X.heap.size := by rw [HXX.out]; simp
          clear HXX
          have HX6 := Lib.hid (HX.out.below hbX (by omega))
          have HRX := Lib.hid (HRW.out.below hbX hhi)
          have HBX := Lib.hid hbX
          clear hbX
          have x60 := HX6.out.cell 0 (by simp)
          have x61 := HX6.out.cell 1 (by simp)
          have x80 := HB8.out.cell 0 (by simp)
          have x81 := HB8.out.cell 1 (by simp)
          cases hp : putR M (s, o) with
          | none =>
            rw [hp] at HNX
            have hRz := HNO.out (putsR_end HNX.out)
            subst hRz
            go_upto_region 9 with (go_at_call 13; refine (taPut_any _ ⟨d1, M⟩ s o lo hi X ⟨A, c, by rw [HM.out], by rw [HM.out]; exact HRX.out⟩ (by omega) (by show M.length ≤ _; rw [HM.out]; omega) ⟨_, _, _, _, rfl, HPL.out⟩).mono ?_; rw [hp]; rintro e w5 ⟨rv, lo', hi', rfl, ⟨dq, A5, m5, c5, rfl, hpl5⟩, hT5, hlo5, hhi5, hb5⟩; have HB5 := Lib.hid hb5; have hs5 := hb5.size; clear hT5 hb5 hlo5)
            clear x60 x61 x80 x81
            refine nameC ?_
            intro Z HZ
            have hbZ : Below w5.heap.size w5 Z := by rw [HZ.out]; exact below_a1 _ _
            clear HZ
            have H9 := Lib.hid (HBr.out.trans (((HBX.out.trans (HB5.out.mono (by omega))).trans (hbZ.mono (by omega))).mono (by omega)))
            clear hbZ
            have B4 := HB4.out.below H9.out (by omega)
            have k40 := B4.cell 0 (by simp)
            have k41 := B4.cell 1 (by simp)
            have kf := B4.frozen
            go_wp2_with fail
            (try simp only [Exit.inBlock, Exit.then])
            refine bodyPost_ret (results_tab rfl _ _ _ _ _ rfl (box_store B4)) rfl ?_
            exact ⟨_, rfl, tabZ_at _ _ _, below_store (HBW.out.trans (H9.out.mono (by omega))) (by omega)⟩
          | some M' =>
            rw [hp] at HNX
            have hml := putR_len hp
            rw [HM.out] at hml
            go_upto_region 10 with (go_at_call 13; refine (taPut_any _ ⟨d1, M⟩ s o lo hi X ⟨A, c, by rw [HM.out], by rw [HM.out]; exact HRX.out⟩ (by omega) (by show M.length ≤ _; rw [HM.out]; omega) ⟨_, _, _, _, rfl, HPL.out⟩).mono ?_; rw [hp]; rintro e w5 ⟨rv, lo', hi', rfl, ⟨dq, A5, m5, c5, rfl, hpl5⟩, hT5, hlo5, hhi5, hb5⟩; have HB5 := Lib.hid hb5; have HT5 := Lib.hid hT5; have hs5 := hb5.size; clear hT5 hb5)
            clear x60 x61 x80 x81
            refine nameC ?_
            intro Z HZ
            obtain ⟨A6, c6, he5, hr5⟩ := HT5.out
            obtain ⟨rfl, rfl, HM5, rfl⟩ : dq = d1 ∧ A5 = A6 ∧ Hid (M'.length = m5) ∧ c5 = c6 := by injection he5 with e; injection e with e; injection e with e1 e; injection e with e _; injection e1 with _ e1; injection e with e2 e3 e4; exact ⟨e1, e2, Lib.hid e3.symm, e4⟩
            have B9 := Lib.hid (show BoxN Z w5.heap.size #[.int .i64 dq, .slice A5 m5 c5] 28 by rw [HZ.out]; exact BoxN.new _ _ _)
            have hbZ : Below w5.heap.size w5 Z := by rw [HZ.out]; exact below_a1 _ _
            have hsZ : w5.heap.size + 1 ≤ Z.heap.size := by rw [HZ.out]; simp
            clear HZ he5
            have hml5 : m5 ≤ m + 1 := by rw [← HM5.out]; exact hml
            have HRZ := Lib.hid (show RowS Z lo' hi' (.slice A5 m5 c5) M' by
              have := hr5.below hbZ hhi5
              rw [show (⟨dq, (some M').getD M⟩ : TabD).rows.length = m5 from HM5.out] at this
              exact this)
            have H6 := Lib.hid ((HX6.out.below HB5.out (by omega)).below hbZ (by omega))
            have HBZ := Lib.hid ((HBX.out.trans (HB5.out.mono (by omega))).trans (hbZ.mono (by omega)))
            clear hbZ hr5
            have q0 := B9.out.cell 0 (by simp)
            have q1 := B9.out.cell 1 (by simp)
            have q60 := H6.out.cell 0 (by simp)
            have q61 := H6.out.cell 1 (by simp)
            have q6f := H6.out.frozen
            go_wp2_with fail
            go_roundw
            case rel =>
              refine ⟨k + 1, M', A5, c5, m5, lo', hi', by omega, by go_num, HNX, HM5, by omega, Lib.hid ?_, Lib.hid (box_store H6.out), Lib.hid ?_, Lib.hid hpl5, by simp; omega, ?_, ?_⟩
              · exact ((HT.out.trans (Turned.of_below HBZ.out (Nat.le_refl _))).setCell (p := ⟨g6, 0, none⟩) (Nat.le_refl _) (Nat.lt_succ_self _) _).setCell (p := ⟨g6, 1, none⟩) (Nat.le_refl _) (Nat.lt_succ_self _) _
              · exact (HRZ.out.setCell (by show g6 < _ ∨ _ ≤ g6; rcases hlo5 with ⟨rfl, rfl⟩ | h <;> omega) _).setCell (by show g6 < _ ∨ _ ≤ g6; rcases hlo5 with ⟨rfl, rfl⟩ | h <;> omega) _
              · rcases hlo5 with ⟨rfl, rfl⟩ | h <;> omega
              · rcases hlo5 with ⟨rfl, rfl⟩ | h <;> omega
            case measure => simp [intOf]; omega
        · obtain rfl : k = n2 := by omega
          have hRy := HYES.out M (by have := HPU.out; rwa [List.take_of_length_le (by rw [HN2.out]; exact Nat.le_refl _)] at this)
          have HRR := Lib.hid hRy.symm
          clear hRy
          have y60 := HX.out.cell 0 (by simp)
          have y61 := HX.out.cell 1 (by simp)
          go_wp2_with fail
          refine (taIf_any _ ⟨d1, M⟩ lo hi wr ⟨A, c, by rw [HM.out], by rw [HM.out]; exact HRW.out⟩ hhi).mono ?_
          rw [HRR.out]
          rintro e w5 ⟨rv, rfl, hT5, hb5⟩
          clear y60 y61
          have hs5 := hb5.size
          obtain ⟨A4, c4, rfl, hr4⟩ := hT5
          have R4 := Lib.hid hr4
          have H5 := Lib.hid (HBr.out.trans (hb5.mono (by omega)))
          clear hr4 hb5
          have B4 := HB4.out.below H5.out (by omega)
          have k40 := B4.cell 0 (by simp)
          have k41 := B4.cell 1 (by simp)
          have kf := B4.frozen
          go_wp2_with fail
          (try simp only [Exit.inBlock, Exit.then])
          refine bodyPost_ret (results_tab rfl _ _ _ _ _ rfl (box_store B4)) rfl ?_
          refine ⟨_, rfl, ⟨A4, c4, rfl, ?_⟩, below_store (HBW.out.trans (H5.out.mono (by omega))) (by omega)⟩
          exact ((R4.out.setCell (.inl (by show w.heap.size + 1 + 1 < lo; omega)) _).setCell (.inl (by show w.heap.size + 1 + 1 < lo; omega)) _).mono (by omega) (by simp; omega)
    · simp only [List.getElem_toArray, List.getElem_cons_succ, List.getElem_cons_zero]
      refine ite_is (by rfl) ?_
      simp [go_sem]
      have hb4 := HBL1.out.alloc hs1 (.cells #[.int .i64 0, .slice none 0 0] 28)
      have E4 := HB2.out.below hb4 (by omega)
      have hS4 : (X1.alloc (.cells #[.int .i64 0, .slice none 0 0] 28)).cell? ⟨w.heap.size, 0, none⟩ = some (.int .i64 d1) ∧ (X1.alloc (.cells #[.int .i64 0, .slice none 0 0] 28)).cell? ⟨w.heap.size, 1, none⟩ = some (.slice A1 n1 c1) := ⟨E4.cell 0 (by simp), E4.cell 1 (by simp)⟩
      refine hK.out _ _ ⟨fun _ => hS4, ?_⟩
      clear hK K
      try simp only [List.getElem_toArray, List.getElem_cons_succ, List.getElem_cons_zero, Act.put, List.setIfInBounds_toArray, List.set_cons_zero, List.set_cons_succ]
      refine nameU ?_
      intro X4 HX4
      rw [← HX4.out] at hb4 hS4
      have HBL4 := Lib.hid hb4
      have hs4 := hb4.size
      have hz4 : X4.heap.size = X1.heap.size + 1 := by rw [HX4.out]; simp
      have BX4 := Lib.hid (show BoxN X4 X1.heap.size #[.int .i64 0, .slice none 0 0] 28 by rw [HX4.out]; exact BoxN.new _ _ _)
      have OW4 := Lib.hid (show OwnR X4 W.heap.size 38 (.slice (some ⟨V.heap.size, 0, none⟩) 0 0) [] by rw [HX4.out]; exact OW1.out.alloc _)
      clear HX4 hb4
      refine anyU_ready (rs := [5]) (by kernel_rfl) (by simp) ?_
      refine ReadyU.cons (i := 5) rfl (fun K hK => ?_) ReadyU.nil
      simp only [List.getElem_toArray, List.getElem_cons_succ, List.getElem_cons_zero]
      refine ite_is (by rfl) ?_
      have hne5 : (V.heap.size ≠ X1.heap.size ∧ X1.heap.size < X4.heap.size ∧ W.heap.size ≤ X1.heap.size) := by have := BX4.out.lt; omega
      refine step_append_rows (s := .tmp 29) Try.underlying26 Try.info38 (by decide) (by decide) (.tmp 31) rfl OW4.out rfl (HG1.out.below HBL4.out (by omega)) rfl (by rw [HN1.out]; simp <;> omega) hs4 ?_
      rw [List.nil_append]
      intro v3 X5 ho5 hg5 hob5
      obtain ⟨k5, hk5, hkn5⟩ : ∃ k, v3.ownBlock = some k ∧ (k = V.heap.size ∨ k = X4.heap.size) := by
        rcases hob5 with h | h
        · exact ⟨_, h, .inl rfl⟩
        · exact ⟨_, h, .inr rfl⟩
      obtain ⟨c3, rfl, hrk5, hkb5, hkl5⟩ := ho5.at_ hk5
      rw [HN1.out] at hrk5 ⊢
      have RK5 := Lib.hid hrk5
      have hb5 := HBL4.out.grown hg5 hs4 (fun g hg => (OW4.out.lt g hg).1)
      have HBL5 := Lib.hid hb5
      have hs5 := hb5.size
      have hgs5 := hg5.size
      have BX5 := Lib.hid (show BoxN X5 (X1.heap.size) #[.int .i64 0, .slice none 0 0] 28 from (hg5.block _ hne5.2.1 (fun e => hne5.1 (by injection e with e; exact e.symm))).trans BX4.out)
      have HK5 := Lib.hid (show W.heap.size ≤ k5 ∧ k5 < X5.heap.size ∧ k5 ≠ X1.heap.size ∧ W.heap.size ≤ X1.heap.size by omega)
      have E5 := HB2.out.below hb5 (by omega)
      have hS5 : X5.cell? ⟨w.heap.size, 0, none⟩ = some (.int .i64 d1) ∧ X5.cell? ⟨w.heap.size, 1, none⟩ = some (.slice A1 n1 c1) := ⟨E5.cell 0 (by simp), E5.cell 1 (by simp)⟩
      clear ho5 hg5 hrk5 hb5
      refine hK.out _ _ ⟨fun _ => hS5, ?_⟩
      clear hK K
      try simp only [Act.put, List.setIfInBounds_toArray, List.set_cons_zero, List.set_cons_succ]
      refine anyU_take (i := 6) (v := .agg #[.int .i64 d1, .slice (some ⟨k5, 0, none⟩) n1 c3]) rfl (by kernel_rfl) (by kernel_rfl) (by kernel_rfl) (fun _ _ _ h => h) ⟨by rfl, fun w' hS' => (by obtain ⟨k1, k2⟩ := hS'; go_simp)⟩ hS5 ?_
      simp only [List.getElem_toArray, List.getElem_cons_succ, List.getElem_cons_zero, Act.put, List.setIfInBounds_toArray, List.set_cons_zero, List.set_cons_succ]
      obtain ⟨g6, HG6⟩ : ∃ g, Hid (X1.heap.size = g) := ⟨_, Lib.hid rfl⟩
      obtain ⟨gk, HGK⟩ : ∃ g, Hid (k5 = g) := ⟨_, Lib.hid rfl⟩
      have Z6 : BoxN X5 g6 #[.int .i64 0, .slice none 0 0] 28 := by rw [← HG6.out]; exact BX5.out
      have hg6 : W.heap.size ≤ g6 ∧ g6 < X5.heap.size ∧ W.heap.size ≤ gk ∧ gk < X5.heap.size ∧ gk ≠ g6 := by have := HK5.out; rw [← HG6.out, ← HGK.out]; exact ⟨by omega, BX5.out.lt, by omega, by omega, by omega⟩
      have z60 := Z6.cell 0 (by simp)
      have z61 := Z6.cell 1 (by simp)
      have z6f := Z6.frozen
      refine anyU_ready (rs := [8]) (by kernel_rfl) (by simp) ?_
      refine ReadyU.cons (i := 8) rfl (fun K hK => ?_) ReadyU.nil
      simp only [List.getElem_toArray, List.getElem_cons_succ, List.getElem_cons_zero]
      refine ite_is (by rfl) ?_
      rw [HG6.out]
      simp [go_sem, z60, z61, z6f]
      refine hK.out _ _ ⟨fun h => absurd h (by decide), ?_⟩
      clear hK K
      try simp only [List.getElem_toArray, List.getElem_cons_succ, List.getElem_cons_zero, Act.put, List.setIfInBounds_toArray, List.set_cons_zero, List.set_cons_succ]
      refine nameU ?_
      intro Y HY
      have HBY := Lib.hid (show Below W.heap.size W Y by rw [HY.out]; exact below_store HBL5.out hg6.1)
      have BY6 := Lib.hid (show BoxN Y g6 #[.int .i64 d1, .slice (some ⟨gk, 0, none⟩) n1 c3] 28 by rw [HY.out, ← HGK.out]; exact box_store Z6)
      have RY := Lib.hid (show RowS Y gk (gk + 1) (.slice (some ⟨gk, 0, none⟩) n1 c3) a.rows by rw [HY.out, ← HGK.out]; exact (RK5.out.setCell (by have := HGK.out; show g6 < _ ∨ _ ≤ g6; omega) _).setCell (by have := HGK.out; show g6 < _ ∨ _ ≤ g6; omega) _)
      have hsY : X5.heap.size = Y.heap.size := by rw [HY.out]; simp
      rw [hsY] at hg6
      clear z60 z61 z6f Z6 HY
      refine anyU_done (by kernel_rfl) ?_ _
      try (replace hz1 := Nat.le_of_eq (Eq.symm hz1))
      try (replace hz2 := Nat.le_of_eq (Eq.symm hz2))
      try (replace hz3 := Nat.le_of_eq (Eq.symm hz3))
      try (replace hz4 := Nat.le_of_eq (Eq.symm hz4))
      try (replace hz5 := Nat.le_of_eq (Eq.symm hz5))
      try (replace hz6 := Nat.le_of_eq (Eq.symm hz6))
      try (replace hz7 := Nat.le_of_eq (Eq.symm hz7))
      try (replace hz8 := Nat.le_of_eq (Eq.symm hz8))
      try (replace hz9 := Nat.le_of_eq (Eq.symm hz9))
      try (replace hz10 := Nat.le_of_eq (Eq.symm hz10))
      try (replace hz11 := Nat.le_of_eq (Eq.symm hz11))
      have e31 := (HB3.out.below HBY.out (by omega)).cell 1 (by simp)
      have hi31 : n2 ≤ n2 := Nat.le_refl _
      go_upto_region 5 with fail
      clear e31
      go_loopw [37] (fun i wr => ∃ (k : Nat) (M : List Rw) (A : Option Addr) (c m lo hi : Nat), k ≤ n2 ∧ i = .int .i64 k ∧ Hid (putsR a.rows (b.rows.take k) = some M) ∧ Hid (M.length = m) ∧ m ≤ n1 + k ∧ Hid (Turned g6 (g6 + 1) Y wr) ∧ Hid (BoxN wr g6 #[.int .i64 d1, .slice A m c] 28) ∧ Hid (RowS wr lo hi (.slice A m c) M) ∧ Hid (PlainA A) ∧ hi ≤ wr.heap.size ∧ W.heap.size ≤ lo ∧ (hi ≤ g6 ∨ g6 < lo)) (fun i _ => n2 - (intOf i).toNat)
      case atStart => exact ⟨0, a.rows, _, c3, n1, gk, gk + 1, Nat.zero_le _, rfl, Lib.hid rfl, HN1, Nat.le_refl _, Lib.hid (Turned.refl _ _ _), BY6, RY, Lib.hid (.inr ⟨gk, 0, rfl⟩), by omega, by omega, by omega⟩
      case round =>
        clear BY6 RY
        obtain ⟨k, M, A, c, m, lo, hi, hk, rfl, HPU, HM, hmk, HT, HX, HRW, HPL, hhi, hlo, hout⟩ := hrel
        have hsr := HT.out.size
        have HBr := Lib.hid (turned_below HT.out HBY.out hg6.1 HBY.out.size)
        by_cases hlt : k < n2
        · obtain ⟨A', c', he, hc1', hc2', hcell⟩ := (HG2.out.below HBr.out (by omega)).form
          rw [HN2.out] at he hc1' hcell
          obtain ⟨rfl, rfl⟩ : A2 = A' ∧ c2 = c' := by injection he with h1 _ h2; exact ⟨h1, h2⟩
          obtain ⟨b', off, rfl, hb1, hb2, hcs⟩ := hcell (by omega)
          obtain ⟨x1, x2⟩ := hcs k hlt
          clear hcs hcell he
          obtain ⟨s, HS⟩ : ∃ s, Hid ((nthR b.rows k).1 = s) := ⟨_, Lib.hid rfl⟩
          obtain ⟨o, HO⟩ : ∃ s, Hid ((nthR b.rows k).2 = s) := ⟨_, Lib.hid rfl⟩
          rw [HS.out] at x1
          rw [HO.out] at x2
          have HNX := Lib.hid (show putsR a.rows (b.rows.take (k + 1)) = putR M (s, o) by
            have hk' : k < b.rows.length := by rw [HN2.out]; exact hlt
            rw [List.take_succ_eq_append_getElem hk', putsR_snoc, HPU.out, Option.bind_some, ← HS.out, ← HO.out, nthR_eq hk'])
          go_upto_region 7 with fail
          clear x1 x2
          refine nameC ?_
          intro X HXX
          have HB8 := Lib.hid (show BoxN X wr.heap.size #[.string s, .int .i64 o] 38 by rw [HXX.out]; exact BoxN.new _ _ _)
          have hbX : Below wr.heap.size wr X := by rw [HXX.out]; exact below_a1 _ _
          have hsX : wr.heap.size + 1 ≤ X.heap.size := by rw [HXX.out]; simp
          clear HXX
          have HX6 := Lib.hid (HX.out.below hbX (by omega))
          have HRX := Lib.hid (HRW.out.below hbX hhi)
          have HBX := Lib.hid hbX
          clear hbX
          have x60 := HX6.out.cell 0 (by simp)
          have x61 := HX6.out.cell 1 (by simp)
          have x80 := HB8.out.cell 0 (by simp)
          have x81 := HB8.out.cell 1 (by simp)
          cases hp : putR M (s, o) with
          | none =>
            rw [hp] at HNX
            have hRz := HNO.out (putsR_end HNX.out)
            subst hRz
            go_upto_region 9 with (go_at_call 13; refine (taPut_any _ ⟨d1, M⟩ s o lo hi X ⟨A, c, by rw [HM.out], by rw [HM.out]; exact HRX.out⟩ (by omega) (by show M.length ≤ _; rw [HM.out]; omega) ⟨_, _, _, _, rfl, HPL.out⟩).mono ?_; rw [hp]; rintro e w5 ⟨rv, lo', hi', rfl, ⟨dq, A5, m5, c5, rfl, hpl5⟩, hT5, hlo5, hhi5, hb5⟩; have HB5 := Lib.hid hb5; have hs5 := hb5.size; clear hT5 hb5 hlo5)
            clear x60 x61 x80 x81
            refine nameC ?_
            intro Z HZ
            have hbZ : Below w5.heap.size w5 Z := by rw [HZ.out]; exact below_a1 _ _
            clear HZ
            have H9 := Lib.hid (HBr.out.trans (((HBX.out.trans (HB5.out.mono (by omega))).trans (hbZ.mono (by omega))).mono (by omega)))
            clear hbZ
            have B4 := HB4.out.below H9.out (by omega)
            have k40 := B4.cell 0 (by simp)
            have k41 := B4.cell 1 (by simp)
            have kf := B4.frozen
            go_wp2_with fail
            (try simp only [Exit.inBlock, Exit.then])
            refine bodyPost_ret (results_tab rfl _ _ _ _ _ rfl (box_store B4)) rfl ?_
            exact ⟨_, rfl, tabZ_at _ _ _, below_store (HBW.out.trans (H9.out.mono (by omega))) (by omega)⟩
          | some M' =>
            rw [hp] at HNX
            have hml := putR_len hp
            rw [HM.out] at hml
            go_upto_region 10 with (go_at_call 13; refine (taPut_any _ ⟨d1, M⟩ s o lo hi X ⟨A, c, by rw [HM.out], by rw [HM.out]; exact HRX.out⟩ (by omega) (by show M.length ≤ _; rw [HM.out]; omega) ⟨_, _, _, _, rfl, HPL.out⟩).mono ?_; rw [hp]; rintro e w5 ⟨rv, lo', hi', rfl, ⟨dq, A5, m5, c5, rfl, hpl5⟩, hT5, hlo5, hhi5, hb5⟩; have HB5 := Lib.hid hb5; have HT5 := Lib.hid hT5; have hs5 := hb5.size; clear hT5 hb5)
            clear x60 x61 x80 x81
            refine nameC ?_
            intro Z HZ
            obtain ⟨A6, c6, he5, hr5⟩ := HT5.out
            obtain ⟨rfl, rfl, HM5, rfl⟩ : dq = d1 ∧ A5 = A6 ∧ Hid (M'.length = m5) ∧ c5 = c6 := by injection he5 with e; injection e with e; injection e with e1 e; injection e with e _; injection e1 with _ e1; injection e with e2 e3 e4; exact ⟨e1, e2, Lib.hid e3.symm, e4⟩
            have B9 := Lib.hid (show BoxN Z w5.heap.size #[.int .i64 dq, .slice A5 m5 c5] 28 by rw [HZ.out]; exact BoxN.new _ _ _)
            have hbZ : Below w5.heap.size w5 Z := by rw [HZ.out]; exact below_a1 _ _
            have hsZ : w5.heap.size + 1 ≤ Z.heap.size := by rw [HZ.out]; simp
            clear HZ he5
            have hml5 : m5 ≤ m + 1 := by rw [← HM5.out]; exact hml
            have HRZ := Lib.hid (show RowS Z lo' hi' (.slice A5 m5 c5) M' by
              have := hr5.below hbZ hhi5
              rw [show (⟨dq, (some M').getD M⟩ : TabD).rows.length = m5 from HM5.out] at this
              exact this)
            have H6 := Lib.hid ((HX6.out.below HB5.out (by omega)).below hbZ (by omega))
            have HBZ := Lib.hid ((HBX.out.trans (HB5.out.mono (by omega))).trans (hbZ.mono (by omega)))
            clear hbZ hr5
            have q0 := B9.out.cell 0 (by simp)
            have q1 := B9.out.cell 1 (by simp)
            have q60 := H6.out.cell 0 (by simp)
            have q61 := H6.out.cell 1 (by simp)
            have q6f := H6.out.frozen
            go_wp2_with fail
            go_roundw
            case rel =>
              refine ⟨k + 1, M', A5, c5, m5, lo', hi', by omega, by go_num, HNX, HM5, by omega, Lib.hid ?_, Lib.hid (box_store H6.out), Lib.hid ?_, Lib.hid hpl5, by simp; omega, ?_, ?_⟩
              · exact ((HT.out.trans (Turned.of_below HBZ.out (Nat.le_refl _))).setCell (p := ⟨g6, 0, none⟩) (Nat.le_refl _) (Nat.lt_succ_self _) _).setCell (p := ⟨g6, 1, none⟩) (Nat.le_refl _) (Nat.lt_succ_self _) _
              · exact (HRZ.out.setCell (by show g6 < _ ∨ _ ≤ g6; rcases hlo5 with ⟨rfl, rfl⟩ | h <;> omega) _).setCell (by show g6 < _ ∨ _ ≤ g6; rcases hlo5 with ⟨rfl, rfl⟩ | h <;> omega) _
              · rcases hlo5 with ⟨rfl, rfl⟩ | h <;> omega
              · rcases hlo5 with ⟨rfl, rfl⟩ | h <;> omega
            case measure => simp [intOf]; omega
        · obtain rfl : k = n2 := by omega
          have hRy := HYES.out M (by have := HPU.out; rwa [List.take_of_length_le (by rw [HN2.out]; exact Nat.le_refl _)] at this)
          have HRR := Lib.hid hRy.symm
          clear hRy
          have y60 := HX.out.cell 0 (by simp)
          have y61 := HX.out.cell 1 (by simp)
          go_wp2_with fail
          refine (taIf_any _ ⟨d1, M⟩ lo hi wr ⟨A, c, by rw [HM.out], by rw [HM.out]; exact HRW.out⟩ hhi).mono ?_
          rw [HRR.out]
          rintro e w5 ⟨rv, rfl, hT5, hb5⟩
          clear y60 y61
          have hs5 := hb5.size
          obtain ⟨A4, c4, rfl, hr4⟩ := hT5
          have R4 := Lib.hid hr4
          have H5 := Lib.hid (HBr.out.trans (hb5.mono (by omega)))
          clear hr4 hb5
          have B4 := HB4.out.below H5.out (by omega)
          have k40 := B4.cell 0 (by simp)
          have k41 := B4.cell 1 (by simp)
          have kf := B4.frozen
          go_wp2_with fail
          (try simp only [Exit.inBlock, Exit.then])
          refine bodyPost_ret (results_tab rfl _ _ _ _ _ rfl (box_store B4)) rfl ?_
          refine ⟨_, rfl, ⟨A4, c4, rfl, ?_⟩, below_store (HBW.out.trans (H5.out.mono (by omega))) (by omega)⟩
          exact ((R4.out.setCell (.inl (by show w.heap.size + 1 + 1 < lo; omega)) _).setCell (.inl (by show w.heap.size + 1 + 1 < lo; omega)) _).mono (by omega) (by simp; omega)
  · simp only [List.getElem_toArray, List.getElem_cons_succ, List.getElem_cons_zero]
    refine ite_is (by rfl) ?_
    simp [go_sem]
    have hb6 := HV0.out.alloc hsV (.cells #[.int .i64 0, .slice none 0 0] 28)
    have E6 := HB2.out.below hb6 (by omega)
    have hS6 : (V.alloc (.cells #[.int .i64 0, .slice none 0 0] 28)).cell? ⟨w.heap.size, 0, none⟩ = some (.int .i64 d1) ∧ (V.alloc (.cells #[.int .i64 0, .slice none 0 0] 28)).cell? ⟨w.heap.size, 1, none⟩ = some (.slice A1 n1 c1) := ⟨E6.cell 0 (by simp), E6.cell 1 (by simp)⟩
    refine hK.out _ _ ⟨fun _ => hS6, ?_⟩
    clear hK K
    try simp only [List.getElem_toArray, List.getElem_cons_succ, List.getElem_cons_zero, Act.put, List.setIfInBounds_toArray, List.set_cons_zero, List.set_cons_succ]
    refine nameU ?_
    intro X6 HX6
    rw [← HX6.out] at hb6 hS6
    have HBL6 := Lib.hid hb6
    have hs6 := hb6.size
    have hz6 : X6.heap.size = V.heap.size + 1 := by rw [HX6.out]; simp
    have BX6 := Lib.hid (show BoxN X6 V.heap.size #[.int .i64 0, .slice none 0 0] 28 by rw [HX6.out]; exact BoxN.new _ _ _)
    clear HX6 hb6
    refine anyU_ready (rs := [2]) (by kernel_rfl) (by simp) ?_
    refine ReadyU.cons (i := 2) rfl (fun K hK => ?_) ReadyU.nil
    simp only [List.getElem_toArray, List.getElem_cons_succ, List.getElem_cons_zero]
    refine ite_is (by rfl) ?_
    simp [go_sem]
    have hb7 := HBL6.out.alloc hs6 (.cells #[] 38)
    have E7 := HB2.out.below hb7 (by omega)
    have hS7 : (X6.alloc (.cells #[] 38)).cell? ⟨w.heap.size, 0, none⟩ = some (.int .i64 d1) ∧ (X6.alloc (.cells #[] 38)).cell? ⟨w.heap.size, 1, none⟩ = some (.slice A1 n1 c1) := ⟨E7.cell 0 (by simp), E7.cell 1 (by simp)⟩
    refine hK.out _ _ ⟨fun _ => hS7, ?_⟩
    clear hK K
    try simp only [List.getElem_toArray, List.getElem_cons_succ, List.getElem_cons_zero, Act.put, List.setIfInBounds_toArray, List.set_cons_zero, List.set_cons_succ]
    refine nameU ?_
    intro X7 HX7
    rw [← HX7.out] at hb7 hS7
    have HBL7 := Lib.hid hb7
    have hs7 := hb7.size
    have hz7 : X7.heap.size = X6.heap.size + 1 := by rw [HX7.out]; simp
    have OW7 := Lib.hid (show OwnR X7 W.heap.size 38 (.slice (some ⟨X6.heap.size, 0, none⟩) 0 0) [] by rw [HX7.out]; exact OwnR.emptyB _ _ _ rfl hs6)
    have BX7 := Lib.hid (show BoxN X7 (V.heap.size) #[.int .i64 0, .slice none 0 0] 28 by rw [HX7.out]; exact BX6.out.still (grown_alloc _ _))
    clear HX7 hb7
    refine anyU_ready (rs := [5]) (by kernel_rfl) (by simp) ?_
    refine ReadyU.cons (i := 5) rfl (fun K hK => ?_) ReadyU.nil
    simp only [List.getElem_toArray, List.getElem_cons_succ, List.getElem_cons_zero]
    refine ite_is (by rfl) ?_
    have hne8 : (X6.heap.size ≠ V.heap.size ∧ V.heap.size < X7.heap.size ∧ W.heap.size ≤ V.heap.size) := by have := BX7.out.lt; omega
    refine step_append_rows (s := .tmp 29) Try.underlying26 Try.info38 (by decide) (by decide) (.tmp 31) rfl OW7.out rfl (HG1.out.below HBL7.out (by omega)) rfl (by rw [HN1.out]; simp <;> omega) hs7 ?_
    rw [List.nil_append]
    intro v3 X8 ho8 hg8 hob8
    obtain ⟨k8, hk8, hkn8⟩ : ∃ k, v3.ownBlock = some k ∧ (k = X6.heap.size ∨ k = X7.heap.size) := by
      rcases hob8 with h | h
      · exact ⟨_, h, .inl rfl⟩
      · exact ⟨_, h, .inr rfl⟩
    obtain ⟨c3, rfl, hrk8, hkb8, hkl8⟩ := ho8.at_ hk8
    rw [HN1.out] at hrk8 ⊢
    have RK8 := Lib.hid hrk8
    have hb8 := HBL7.out.grown hg8 hs7 (fun g hg => (OW7.out.lt g hg).1)
    have HBL8 := Lib.hid hb8
    have hs8 := hb8.size
    have hgs8 := hg8.size
    have BX8 := Lib.hid (show BoxN X8 (V.heap.size) #[.int .i64 0, .slice none 0 0] 28 from (hg8.block _ hne8.2.1 (fun e => hne8.1 (by injection e with e; exact e.symm))).trans BX7.out)
    have HK8 := Lib.hid (show W.heap.size ≤ k8 ∧ k8 < X8.heap.size ∧ k8 ≠ V.heap.size ∧ W.heap.size ≤ V.heap.size by omega)
    have E8 := HB2.out.below hb8 (by omega)
    have hS8 : X8.cell? ⟨w.heap.size, 0, none⟩ = some (.int .i64 d1) ∧ X8.cell? ⟨w.heap.size, 1, none⟩ = some (.slice A1 n1 c1) := ⟨E8.cell 0 (by simp), E8.cell 1 (by simp)⟩
    clear ho8 hg8 hrk8 hb8
    refine hK.out _ _ ⟨fun _ => hS8, ?_⟩
    clear hK K
    try simp only [Act.put, List.setIfInBounds_toArray, List.set_cons_zero, List.set_cons_succ]
    refine anyU_take (i := 6) (v := .agg #[.int .i64 d1, .slice (some ⟨k8, 0, none⟩) n1 c3]) rfl (by kernel_rfl) (by kernel_rfl) (by kernel_rfl) (fun _ _ _ h => h) ⟨by rfl, fun w' hS' => (by obtain ⟨k1, k2⟩ := hS'; go_simp)⟩ hS8 ?_
    simp only [List.getElem_toArray, List.getElem_cons_succ, List.getElem_cons_zero, Act.put, List.setIfInBounds_toArray, List.set_cons_zero, List.set_cons_succ]
    obtain ⟨g6, HG6⟩ : ∃ g, Hid (V.heap.size = g) := ⟨_, Lib.hid rfl⟩
    obtain ⟨gk, HGK⟩ : ∃ g, Hid (k8 = g) := ⟨_, Lib.hid rfl⟩
    have Z6 : BoxN X8 g6 #[.int .i64 0, .slice none 0 0] 28 := by rw [← HG6.out]; exact BX8.out
    have hg6 : W.heap.size ≤ g6 ∧ g6 < X8.heap.size ∧ W.heap.size ≤ gk ∧ gk < X8.heap.size ∧ gk ≠ g6 := by have := HK8.out; rw [← HG6.out, ← HGK.out]; exact ⟨by omega, BX8.out.lt, by omega, by omega, by omega⟩
    have z60 := Z6.cell 0 (by simp)
    have z61 := Z6.cell 1 (by simp)
    have z6f := Z6.frozen
    refine anyU_ready (rs := [8]) (by kernel_rfl) (by simp) ?_
    refine ReadyU.cons (i := 8) rfl (fun K hK => ?_) ReadyU.nil
    simp only [List.getElem_toArray, List.getElem_cons_succ, List.getElem_cons_zero]
    refine ite_is (by rfl) ?_
    rw [HG6.out]
    simp [go_sem, z60, z61, z6f]
    refine hK.out _ _ ⟨fun h => absurd h (by decide), ?_⟩
    clear hK K
    try simp only [List.getElem_toArray, List.getElem_cons_succ, List.getElem_cons_zero, Act.put, List.setIfInBounds_toArray, List.set_cons_zero, List.set_cons_succ]
    refine nameU ?_
    intro Y HY
    have HBY := Lib.hid (show Below W.heap.size W Y by rw [HY.out]; exact below_store HBL8.out hg6.1)
    have BY6 := Lib.hid (show BoxN Y g6 #[.int .i64 d1, .slice (some ⟨gk, 0, none⟩) n1 c3] 28 by rw [HY.out, ← HGK.out]; exact box_store Z6)
    have RY := Lib.hid (show RowS Y gk (gk + 1) (.slice (some ⟨gk, 0, none⟩) n1 c3) a.rows by rw [HY.out, ← HGK.out]; exact (RK8.out.setCell (by have := HGK.out; show g6 < _ ∨ _ ≤ g6; omega) _).setCell (by have := HGK.out; show g6 < _ ∨ _ ≤ g6; omega) _)
    have hsY : X8.heap.size = Y.heap.size := by rw [HY.out]; simp
    rw [hsY] at hg6
    clear z60 z61 z6f Z6 HY
    refine anyU_done (by kernel_rfl) ?_ _
    try (replace hz1 := Nat.le_of_eq (Eq.symm hz1))
    try (replace hz2 := Nat.le_of_eq (Eq.symm hz2))
    try (replace hz3 := Nat.le_of_eq (Eq.symm hz3))
    try (replace hz4 := Nat.le_of_eq (Eq.symm hz4))
    try (replace hz5 := Nat.le_of_eq (Eq.symm hz5))
    try (replace hz6 := Nat.le_of_eq (Eq.symm hz6))
    try (replace hz7 := Nat.le_of_eq (Eq.symm hz7))
    try (replace hz8 := Nat.le_of_eq (Eq.symm hz8))
    try (replace hz9 := Nat.le_of_eq (Eq.symm hz9))
    try (replace hz10 := Nat.le_of_eq (Eq.symm hz10))
    try (replace hz11 := Nat.le_of_eq (Eq.symm hz11))
    have e31 := (HB3.out.below HBY.out (by omega)).cell 1 (by simp)
    have hi31 : n2 ≤ n2 := Nat.le_refl _
    go_upto_region 5 with fail
    clear e31
    go_loopw [37] (fun i wr => ∃ (k : Nat) (M : List Rw) (A : Option Addr) (c m lo hi : Nat), k ≤ n2 ∧ i = .int .i64 k ∧ Hid (putsR a.rows (b.rows.take k) = some M) ∧ Hid (M.length = m) ∧ m ≤ n1 + k ∧ Hid (Turned g6 (g6 + 1) Y wr) ∧ Hid (BoxN wr g6 #[.int .i64 d1, .slice A m c] 28) ∧ Hid (RowS wr lo hi (.slice A m c) M) ∧ Hid (PlainA A) ∧ hi ≤ wr.heap.size ∧ W.heap.size ≤ lo ∧ (hi ≤ g6 ∨ g6 < lo)) (fun i _ => n2 - (intOf i).toNat)
    case atStart => exact ⟨0, a.rows, _, c3, n1, gk, gk + 1, Nat.zero_le _, rfl, Lib.hid rfl, HN1, Nat.le_refl _, Lib.hid (Turned.refl _ _ _), BY6, RY, Lib.hid (.inr ⟨gk, 0, rfl⟩), by omega, by omega, by omega⟩
    case round =>
      clear BY6 RY
      obtain ⟨k, M, A, c, m, lo, hi, hk, rfl, HPU, HM, hmk, HT, HX, HRW, HPL, hhi, hlo, hout⟩ := hrel
      have hsr := HT.out.size
      have HBr := Lib.hid (turned_below HT.out HBY.out hg6.1 HBY.out.size)
      by_cases hlt : k < n2
      · obtain ⟨A', c', he, hc1', hc2', hcell⟩ := (HG2.out.below HBr.out (by omega)).form
        rw [HN2.out] at he hc1' hcell
        obtain ⟨rfl, rfl⟩ : A2 = A' ∧ c2 = c' := by injection he with h1 _ h2; exact ⟨h1, h2⟩
        obtain ⟨b', off, rfl, hb1, hb2, hcs⟩ := hcell (by omega)
        obtain ⟨x1, x2⟩ := hcs k hlt
        clear hcs hcell he
        obtain ⟨s, HS⟩ : ∃ s, Hid ((nthR b.rows k).1 = s) := ⟨_, Lib.hid rfl⟩
        obtain ⟨o, HO⟩ : ∃ s, Hid ((nthR b.rows k).2 = s) := ⟨_, Lib.hid rfl⟩
        rw [HS.out] at x1
        rw [HO.out] at x2
        have HNX := Lib.hid (show putsR a.rows (b.rows.take (k + 1)) = putR M (s, o) by
          have hk' : k < b.rows.length := by rw [HN2.out]; exact hlt
          rw [List.take_succ_eq_append_getElem hk', putsR_snoc, HPU.out, Option.bind_some, ← HS.out, ← HO.out, nthR_eq hk'])
        go_upto_region 7 with fail
        clear x1 x2
        refine nameC ?_
        intro X HXX
        have HB8 := Lib.hid (show BoxN X wr.heap.size #[.string s, .int .i64 o] 38 by rw [HXX.out]; exact BoxN.new _ _ _)
        have hbX : Below wr.heap.size wr X := by rw [HXX.out]; exact below_a1 _ _
        have hsX : wr.heap.size + 1 ≤ X.heap.size := by rw [HXX.out]; simp
        clear HXX
        have HX6 := Lib.hid (HX.out.below hbX (by omega))
        have HRX := Lib.hid (HRW.out.below hbX hhi)
        have HBX := Lib.hid hbX
        clear hbX
        have x60 := HX6.out.cell 0 (by simp)
        have x61 := HX6.out.cell 1 (by simp)
        have x80 := HB8.out.cell 0 (by simp)
        have x81 := HB8.out.cell 1 (by simp)
        cases hp : putR M (s, o) with
        | none =>
          rw [hp] at HNX
          have hRz := HNO.out (putsR_end HNX.out)
          subst hRz
          go_upto_region 9 with (go_at_call 13; refine (taPut_any _ ⟨d1, M⟩ s o lo hi X ⟨A, c, by rw [HM.out], by rw [HM.out]; exact HRX.out⟩ (by omega) (by show M.length ≤ _; rw [HM.out]; omega) ⟨_, _, _, _, rfl, HPL.out⟩).mono ?_; rw [hp]; rintro e w5 ⟨rv, lo', hi', rfl, ⟨dq, A5, m5, c5, rfl, hpl5⟩, hT5, hlo5, hhi5, hb5⟩; have HB5 := Lib.hid hb5; have hs5 := hb5.size; clear hT5 hb5 hlo5)
          clear x60 x61 x80 x81
          refine nameC ?_
          intro Z HZ
          have hbZ : Below w5.heap.size w5 Z := by rw [HZ.out]; exact below_a1 _ _
          clear HZ
          have H9 := Lib.hid (HBr.out.trans (((HBX.out.trans (HB5.out.mono (by omega))).trans (hbZ.mono (by omega))).mono (by omega)))
          clear hbZ
          have B4 := HB4.out.below H9.out (by omega)
          have k40 := B4.cell 0 (by simp)
          have k41 := B4.cell 1 (by simp)
          have kf := B4.frozen
          go_wp2_with fail
          (try simp only [Exit.inBlock, Exit.then])
          refine bodyPost_ret (results_tab rfl _ _ _ _ _ rfl (box_store B4)) rfl ?_
          exact ⟨_, rfl, tabZ_at _ _ _, below_store (HBW.out.trans (H9.out.mono (by omega))) (by omega)⟩
        | some M' =>
          rw [hp] at HNX
          have hml := putR_len hp
          rw [HM.out] at hml
          go_upto_region 10 with (go_at_call 13; refine (taPut_any _ ⟨d1, M⟩ s o lo hi X ⟨A, c, by rw [HM.out], by rw [HM.out]; exact HRX.out⟩ (by omega) (by show M.length ≤ _; rw [HM.out]; omega) ⟨_, _, _, _, rfl, HPL.out⟩).mono ?_; rw [hp]; rintro e w5 ⟨rv, lo', hi', rfl, ⟨dq, A5, m5, c5, rfl, hpl5⟩, hT5, hlo5, hhi5, hb5⟩; have HB5 := Lib.hid hb5; have HT5 := Lib.hid hT5; have hs5 := hb5.size; clear hT5 hb5)
          clear x60 x61 x80 x81
          refine nameC ?_
          intro Z HZ
          obtain ⟨A6, c6, he5, hr5⟩ := HT5.out
          obtain ⟨rfl, rfl, HM5, rfl⟩ : dq = d1 ∧ A5 = A6 ∧ Hid (M'.length = m5) ∧ c5 = c6 := by injection he5 with e; injection e with e; injection e with e1 e; injection e with e _; injection e1 with _ e1; injection e with e2 e3 e4; exact ⟨e1, e2, Lib.hid e3.symm, e4⟩
          have B9 := Lib.hid (show BoxN Z w5.heap.size #[.int .i64 dq, .slice A5 m5 c5] 28 by rw [HZ.out]; exact BoxN.new _ _ _)
          have hbZ : Below w5.heap.size w5 Z := by rw [HZ.out]; exact below_a1 _ _
          have hsZ : w5.heap.size + 1 ≤ Z.heap.size := by rw [HZ.out]; simp
          clear HZ he5
          have hml5 : m5 ≤ m + 1 := by rw [← HM5.out]; exact hml
          have HRZ := Lib.hid (show RowS Z lo' hi' (.slice A5 m5 c5) M' by
            have := hr5.below hbZ hhi5
            rw [show (⟨dq, (some M').getD M⟩ : TabD).rows.length = m5 from HM5.out] at this
            exact this)
          have H6 := Lib.hid ((HX6.out.below HB5.out (by omega)).below hbZ (by omega))
          have HBZ := Lib.hid ((HBX.out.trans (HB5.out.mono (by omega))).trans (hbZ.mono (by omega)))
          clear hbZ hr5
          have q0 := B9.out.cell 0 (by simp)
          have q1 := B9.out.cell 1 (by simp)
          have q60 := H6.out.cell 0 (by simp)
          have q61 := H6.out.cell 1 (by simp)
          have q6f := H6.out.frozen
          go_wp2_with fail
          go_roundw
          case rel =>
            refine ⟨k + 1, M', A5, c5, m5, lo', hi', by omega, by go_num, HNX, HM5, by omega, Lib.hid ?_, Lib.hid (box_store H6.out), Lib.hid ?_, Lib.hid hpl5, by simp; omega, ?_, ?_⟩
            · exact ((HT.out.trans (Turned.of_below HBZ.out (Nat.le_refl _))).setCell (p := ⟨g6, 0, none⟩) (Nat.le_refl _) (Nat.lt_succ_self _) _).setCell (p := ⟨g6, 1, none⟩) (Nat.le_refl _) (Nat.lt_succ_self _) _
            · exact (HRZ.out.setCell (by show g6 < _ ∨ _ ≤ g6; rcases hlo5 with ⟨rfl, rfl⟩ | h <;> omega) _).setCell (by show g6 < _ ∨ _ ≤ g6; rcases hlo5 with ⟨rfl, rfl⟩ | h <;> omega) _
            · rcases hlo5 with ⟨rfl, rfl⟩ | h <;> omega
            · rcases hlo5 with ⟨rfl, rfl⟩ | h <;> omega
          case measure => simp [intOf]; omega
      · obtain rfl : k = n2 := by omega
        have hRy := HYES.out M (by have := HPU.out; rwa [List.take_of_length_le (by rw [HN2.out]; exact Nat.le_refl _)] at this)
        have HRR := Lib.hid hRy.symm
        clear hRy
        have y60 := HX.out.cell 0 (by simp)
        have y61 := HX.out.cell 1 (by simp)
        go_wp2_with fail
        refine (taIf_any _ ⟨d1, M⟩ lo hi wr ⟨A, c, by rw [HM.out], by rw [HM.out]; exact HRW.out⟩ hhi).mono ?_
        rw [HRR.out]
        rintro e w5 ⟨rv, rfl, hT5, hb5⟩
        clear y60 y61
        have hs5 := hb5.size
        obtain ⟨A4, c4, rfl, hr4⟩ := hT5
        have R4 := Lib.hid hr4
        have H5 := Lib.hid (HBr.out.trans (hb5.mono (by omega)))
        clear hr4 hb5
        have B4 := HB4.out.below H5.out (by omega)
        have k40 := B4.cell 0 (by simp)
        have k41 := B4.cell 1 (by simp)
        have kf := B4.frozen
        go_wp2_with fail
        (try simp only [Exit.inBlock, Exit.then])
        refine bodyPost_ret (results_tab rfl _ _ _ _ _ rfl (box_store B4)) rfl ?_
        refine ⟨_, rfl, ⟨A4, c4, rfl, ?_⟩, below_store (HBW.out.trans (H5.out.mono (by omega))) (by omega)⟩
        exact ((R4.out.setCell (.inl (by show w.heap.size + 1 + 1 < lo; omega)) _).setCell (.inl (by show w.heap.size + 1 + 1 < lo; omega)) _).mono (by omega) (by simp; omega)


end Go.Proofs.Ytlfdhhmccjkogaa
