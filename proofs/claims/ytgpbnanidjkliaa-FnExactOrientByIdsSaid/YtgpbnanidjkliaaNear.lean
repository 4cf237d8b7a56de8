/-
  Contracts of NearestOf (program and reference). Printed by gen_near.py.
-/
import Derived.Test.YtgpbnanidjkliaaNearP
namespace Go.Proofs.Ytgpbnanidjkliaa
open Go.ChangeShapes Go.WideShapes Go.ChangeAt Go.RowKit
set_option linter.unusedVariables false

def nearStep (ds : List Int) (best x : Int) : Int := if 0 ≤ nth ds x.toNat ∧ (best < 0 ∨ nth ds x.toNat < nth ds best.toNat) then x else best
def nearest (ds zs : List Int) : Int := zs.foldl (nearStep ds) (-1)
def nearAll (N : NetD) (zs : List Int) : List Int := (List.range N.ends.length).map fun v => nearest (dist N v) zs
def nearOut (N : NetD) (zs : List Int) : List Int := if nodeSet N zs then nearAll N zs else []
theorem nearAll_length (N : NetD) (zs : List Int) : (nearAll N zs).length = N.ends.length := by simp [nearAll]
theorem foldl_take_succ {α : Type} (f : α → Int → α) (s : α) (zs : List Int) {k : Nat} (hk : k < zs.length) : (zs.take (k + 1)).foldl f s = f ((zs.take k).foldl f s) (nth zs k) := by
  rw [List.take_succ_eq_append_getElem hk, List.foldl_append, nth_eq hk]; rfl
theorem nodeSet_good {N : NetD} {zs : List Int} (h : nodeSet N zs = true) : N.good = true := by unfold nodeSet at h; rw [Bool.and_eq_true] at h; exact h.1
theorem nodeSet_mem {N : NetD} {zs : List Int} (h : nodeSet N zs = true) {k : Nat} (hk : k < zs.length) : ∃ t : Nat, nth zs k = t ∧ t < N.ends.length := by
  unfold nodeSet at h
  rw [Bool.and_eq_true, rising_iff] at h
  have := inB_le (h.2.1 _ (nth_mem hk))
  exact ⟨(nth zs k).toNat, by omega, by omega⟩
theorem nearOut_len (N : NetD) (zs : List Int) : (nearOut N zs).length ≤ 40 := by
  unfold nearOut
  split
  · rename_i h; rw [nearAll_length]; exact (good_n (nodeSet_good h)).2
  · simp

set_option maxHeartbeats 4000000 in
set_option maxRecDepth 100000 in
theorem NearestOf_spec (v1 : Value) (N : NetD) (lo1 hi1 : Nat) (v2 : Value) (zs : List Int) (lo2 hi2 : Nat) (w : World) (h1 : Net w lo1 hi1 v1 N) (hh1 : hi1 ≤ w.heap.size) (h2 : IntS w lo2 hi2 v2 zs) (hh2 : hi2 ≤ w.heap.size) (hz1 : N.sz ≤ 1048576) (hz2 : zs.length ≤ 1048576) (o1 : N.Ok) (o2 : ∀ z ∈ zs, I64 z) :
    Calls Try.prog 48 #[v1, v2] w fun e w' => ∃ r, e = .returned (.tuple #[r, .bool (nodeSet N zs)]) ∧ IntS w' w.heap.size w'.heap.size r (nearOut N zs) ∧ Below w.heap.size w w' := by
  have HN := Lib.hid h1
  have HP := Lib.hid h2
  obtain ⟨A, c, A2, c2, A3, c3, rfl, hc1, hc2, _⟩ := h1.parts
  obtain ⟨B, d, rfl, hd1, hd2, hcell⟩ := h2.form
  unfold maxLen at hd2
  have HC := Lib.hid hcell
  clear h1 h2 o1 o2 hcell
  have b0 := Box3.new w 31 (.slice A N.ends.length c) (.slice A2 N.ids.length c2) (.slice A3 N.inputs.length c3)
  have hb0 : Below w.heap.size w (w.alloc (.cells #[.slice A N.ends.length c, .slice A2 N.ids.length c2, .slice A3 N.inputs.length c3] 31)) := below_a1 _ _
  go_enter Try.func48, Try.ntmps48
  go_wp2_with fail
  refine (ruSet_any _ N lo1 hi1 _ zs lo2 hi2 _ (HN.out.below hb0 hh1) (by simp; omega) (HP.out.below hb0 hh2) (by simp; omega) hz1).mono ?_
  rintro e w1 ⟨rfl, hb1⟩
  have hw1 := hb0.trans (hb1.mono (by simp))
  have b1 := b0.below hb1 (by simp)
  have hsw1 := hw1.size
  clear b0 hb0 hb1
  by_cases hg : nodeSet N zs = true
  case neg =>
    have hg' : nodeSet N zs = false := by simpa using hg
    rw [hg']
    go_wp2_with fail
    go_ret2
    exact ⟨_, ret_vb hg'.symm, by unfold nearOut; rw [hg']; exact IntS.nil _ _ _, hw1⟩
  rw [hg]
  have HG := Lib.hid hg
  have hgood := nodeSet_good hg
  obtain ⟨n1, n40⟩ := good_n hgood
  have HGG := Lib.hid hgood
  clear hg hgood
  obtain ⟨k0, k1, k2⟩ := b1.cells
  go_wp2_with fail
  have hsB : w.heap.size + 1 ≤ w1.heap.size := b1.lt
  obtain ⟨sB, HSB⟩ : ∃ sB, sB = w1.heap.size := ⟨_, rfl⟩
  rw [← HSB] at hsB
  have hsB2 : sB ≤ w1.heap.size := by omega
  clear HSB k0 k1 k2
  go_loopw [19, 6] (fun i ov wr => ∃ (k : Nat) (os : List Int), k ≤ N.ends.length ∧ i = .int .i64 k ∧ OwnI wr sB 3 ov os ∧ Hid (os = (nearAll N zs).take k) ∧ os.length ≤ k ∧ sB ≤ wr.heap.size ∧
      Box3 wr w.heap.size 31 (.slice A N.ends.length c) (.slice A2 N.ids.length c2) (.slice A3 N.inputs.length c3) ∧ Below w.heap.size w wr) (fun i _ _ => N.ends.length - (intOf i).toNat)
  case atStart => exact ⟨0, [], Nat.zero_le _, rfl, OwnI.nil _ _ _, Lib.hid (by simp), Nat.zero_le _, hsB2, b1, hw1⟩
  case round =>
    clear b1 hw1 hsB2 
    obtain ⟨k, os, hk, rfl, ho, HD, hol, hs, hbx, hb⟩ := hrel
    by_cases hlt : k < N.ends.length
    case neg =>
      obtain rfl : k = N.ends.length := by omega
      go_wp2_with fail
      go_ret2
      refine ⟨_, ret_vb HG.out.symm, ?_, hb⟩
      have e : nearOut N zs = os := by unfold nearOut; rw [HG.out, if_pos rfl, HD.out, List.take_of_length_le (by rw [nearAll_length]; exact Nat.le_refl _)]
      rw [e]
      exact ho.ints.mono (by omega) (Nat.le_refl _)
    obtain ⟨q0, q1, q2⟩ := hbx.cells
    go_wp2_with fail
    refine (meFrom_any _ N k lo1 hi1 _ (HN.out.below hb hh1) (by omega) hlt (by omega) (good_nodes HGG.out) (good_degs HGG.out)).mono ?_
    rintro e w2 ⟨r, rfl, hr, hb2⟩
    have hbx2 := hbx.below hb2 hbx.lt
    have hbw2 := hb.trans (hb2.mono hb.size)
    have ho2 := World.ownsRow.kept ho (row := none) ⟨hb2.os, hb2.tape, hb2.output, hb2.size, fun k hk _ => hb2.block k hk⟩ (by cases hv : Value.ownBlock _ with
      | none => exact .inl rfl
      | some g => right; simp)
    have hs2 := hb2.size
    have hlr := OwnI.lt ho
    obtain ⟨R, rc, rfl, hrc1, hrc2, hrcell⟩ := hr.form
    rw [dist_len (good_nodes HGG.out) hlt] at hrc1 hrcell ⊢
    obtain ⟨bR, oR, rfl, hbR1, hbR2, hcR⟩ := hrcell (by omega)
    have HCR := Lib.hid hcR
    unfold maxLen at hrc2
    clear hr hrcell hcR q0 q1 q2
    obtain ⟨wo, rfl⟩ : ∃ wo : World, wo = w2 := ⟨_, rfl⟩
    go_wp2_with fail
    go_loopw [27, 9] (fun i bv wi => ∃ (m nd : Nat) (best : Int), m ≤ zs.length ∧ i = .int .i64 m ∧ bv = .int .i64 best ∧ -1 ≤ best ∧ best < N.ends.length ∧ Hid (best = (zs.take m).foldl (nearStep (dist N k)) (-1)) ∧ wi = wo.drewN nd) (fun i _ _ => zs.length - (intOf i).toNat)
    case atStart => exact ⟨0, 0, -1, Nat.zero_le _, rfl, rfl, by omega, by omega, Lib.hid (by simp), rfl⟩
    case round =>
      obtain ⟨m, nd, best, hm, rfl, rfl, hb1, hb2, HF, rfl⟩ := hrel
      by_cases hml : m < zs.length
      case neg =>
        obtain rfl : m = zs.length := by omega
        go_wp2_with (at_builtin; refine append_int (s := .tmp 53) Try.underlying23 Try.info3 (by decide) (wo.drewN nd) rfl _ rfl (OwnI.drewN (ho2) nd) best _ rfl (by simp [Act.eval, go_sem]) (by omega) (by show _ ≤ wo.heap.size; omega) ?_; intro v' w' ho' hg' hat')
        go_roundw
        case rel =>
          have hgr : wo.grownBy w' _ := ⟨hg'.os, hg'.tape, hg'.output, hg'.size, hg'.block⟩
          have hgs := hgr.size
          refine ⟨k + 1, os ++ [best], by omega, by go_num, ho', Lib.hid ?_, by simp; omega, by omega, Box3.grown hbx2 hgr (fun g hg => by have := hlr g hg; omega), Below.grown hbw2 hgr (by have := (hbw2).size; omega) fun g hg => by have := hlr g hg; omega⟩
          rw [List.take_succ_eq_append_getElem (by rw [nearAll_length]; exact hlt), HD.out, HF.out, List.take_length]
          simp [nearAll, nearest]
        case measure => simp [intOf]; omega
      obtain ⟨bz, oz, rfl, hbz1, hbz2, hcz⟩ := HC.out (by omega)
      obtain ⟨t, ht, htl⟩ := nodeSet_mem HG.out hml
      have z1 := ((hbw2).cell (p := ⟨bz, oz + m, none⟩) (by show bz < _; omega)).trans (hcz m hml).1
      rw [ht] at z1
      have r1 := (HCR.out t htl).1
      obtain ⟨y, HY⟩ : ∃ y, Hid (nth (dist N k) t = y) := ⟨_, Lib.hid rfl⟩
      rw [HY.out] at r1
      have hti : (t : Int) < N.ends.length := by omega
      have hmi : (m : Int) < zs.length := by omega
      have HT := Lib.hid ht
      clear ht hcz
      have step : ∀ b', nearStep (dist N k) best t = b' → Hid (b' = (zs.take (m + 1)).foldl (nearStep (dist N k)) (-1)) := fun b' e => Lib.hid (by rw [foldl_take_succ _ _ _ hml, ← HF.out, HT.out, e])
      by_cases hy : 0 ≤ y
      case neg =>
        have g1 : decide (0 ≤ y) = false := decide_eq_false hy
        go_wp2_with fail
        go_quiet (fail)
        go_wp2_with fail
        go_roundw
        case rel => exact ⟨m + 1, nd + nq, best, by omega, by go_num, rfl, hb1, hb2, step best (by unfold nearStep; rw [Int.toNat_natCast, HY.out, if_neg (by omega)]), rfl⟩
        case measure => simp [intOf]; omega
      have g1 : decide (0 ≤ y) = true := decide_eq_true hy
      by_cases hbn : best < 0
      · have g2 : decide (best < 0) = true := decide_eq_true hbn
        go_wp2_with fail
        go_quiet (fail)
        go_wp2_with fail
        go_roundw
        case rel => exact ⟨m + 1, nd + nq, t, by omega, by go_num, rfl, by omega, by omega, step t (by unfold nearStep; rw [Int.toNat_natCast, HY.out, if_pos (by omega)]), rfl⟩
        case measure => simp [intOf]; omega
      have g2 : decide (best < 0) = false := decide_eq_false hbn
      obtain ⟨bn, rfl⟩ : ∃ bn : Nat, best = bn := ⟨best.toNat, by omega⟩
      have r2 := (HCR.out bn (by omega)).1
      obtain ⟨z, HZ⟩ : ∃ z, Hid (nth (dist N k) bn = z) := ⟨_, Lib.hid rfl⟩
      rw [HZ.out] at r2
      by_cases hyz : y < z
      · go_wp2_with fail
        go_quiet (fail)
        go_wp2_with fail
        go_roundw
        case rel => exact ⟨m + 1, nd + nq, t, by omega, by go_num, rfl, by omega, by omega, step t (by unfold nearStep; rw [Int.toNat_natCast, Int.toNat_natCast, HY.out, HZ.out, if_pos (by omega)]), rfl⟩
        case measure => simp [intOf]; omega
      · have g3 : decide (y < z) = false := decide_eq_false hyz
        go_wp2_with fail
        go_quiet (fail)
        go_wp2_with fail
        go_roundw
        case rel => exact ⟨m + 1, nd + nq, bn, by omega, by go_num, rfl, by omega, by omega, step bn (by unfold nearStep; rw [Int.toNat_natCast, Int.toNat_natCast, HY.out, HZ.out, if_neg (by omega)]), rfl⟩
        case measure => simp [intOf]; omega

set_option maxHeartbeats 4000000 in
set_option maxRecDepth 100000 in
theorem NearestOf_impl (v1 : Value) (N : NetD) (lo1 hi1 : Nat) (v2 : Value) (zs : List Int) (lo2 hi2 : Nat) (w : World) (h1 : Net w lo1 hi1 v1 N) (hh1 : hi1 ≤ w.heap.size) (h2 : IntS w lo2 hi2 v2 zs) (hh2 : hi2 ≤ w.heap.size) (hz1 : N.sz ≤ 1048576) (hz2 : zs.length ≤ 1048576) (o1 : N.Ok) (o2 : ∀ z ∈ zs, I64 z) :
    Calls Try.prog 49 #[v1, v2] w fun e w' => ∃ r, e = .returned (.tuple #[r, .bool (nodeSet N zs)]) ∧ IntS w' w.heap.size w'.heap.size r (nearOut N zs) ∧ Below w.heap.size w w' := by
  have HN := Lib.hid h1
  have HP := Lib.hid h2
  obtain ⟨A, c, A2, c2, A3, c3, rfl, hc1, hc2, _⟩ := h1.parts
  obtain ⟨B, d, rfl, hd1, hd2, hcell⟩ := h2.form
  unfold maxLen at hd2
  have HC := Lib.hid hcell
  clear h1 h2 o1 o2 hcell
  have b0 := Box3.new w 31 (.slice A N.ends.length c) (.slice A2 N.ids.length c2) (.slice A3 N.inputs.length c3)
  have hb0 : Below w.heap.size w (w.alloc (.cells #[.slice A N.ends.length c, .slice A2 N.ids.length c2, .slice A3 N.inputs.length c3] 31)) := below_a1 _ _
  go_enter Try.func49, Try.ntmps49
  go_wp2_with fail
  refine (isNodeSet_any _ N lo1 hi1 _ zs lo2 hi2 _ (HN.out.below hb0 hh1) (by simp; omega) (HP.out.below hb0 hh2) (by simp; omega) hz1).mono ?_
  rintro e w1 ⟨rfl, hb1⟩
  have hw1 := hb0.trans (hb1.mono (by simp))
  have b1 := b0.below hb1 (by simp)
  have hsw1 := hw1.size
  clear b0 hb0 hb1
  by_cases hg : nodeSet N zs = true
  case neg =>
    have hg' : nodeSet N zs = false := by simpa using hg
    rw [hg']
    go_wp2_with fail
    go_ret2
    exact ⟨_, ret_vb hg'.symm, by unfold nearOut; rw [hg']; exact IntS.nil _ _ _, hw1⟩
  rw [hg]
  have HG := Lib.hid hg
  have hgood := nodeSet_good hg
  obtain ⟨n1, n40⟩ := good_n hgood
  have HGG := Lib.hid hgood
  clear hg hgood
  obtain ⟨k0, k1, k2⟩ := b1.cells
  go_wp2_with fail
  refine (allDistances_any _ N lo1 hi1 _ (HN.out.below hw1 hh1) (by omega) (by omega) (good_nodes HGG.out) (good_degs HGG.out)).mono ?_
  rintro e w3 ⟨rd, rfl, hrd, hb3⟩
  have hrf := hrd.form
  rw [allDist_length] at hrf
  obtain ⟨D, dc, rfl, hdc1, hdc2, hdcell⟩ := hrf
  unfold maxLen at hdc2
  obtain ⟨bD, oD, rfl, hbD1, hbD2, hcD⟩ := hdcell (by omega)
  have HCD := Lib.hid hcD
  have b3 := b1.below hb3 b1.lt
  have hw3 := hw1.trans (hb3.mono hw1.size)
  have hs3 := hb3.size
  clear hrd hdcell hcD
  go_wp2_with fail
  have hsB : w.heap.size + 1 ≤ w3.heap.size := b3.lt
  obtain ⟨sB, HSB⟩ : ∃ sB, sB = w3.heap.size := ⟨_, rfl⟩
  rw [← HSB] at hsB hbD2
  have hsB2 : sB ≤ w3.heap.size := by omega
  have hDR : ∀ j, j < N.ends.length → ∃ R rc, w3.cell? ⟨bD, oD + j, none⟩ = some (.slice R (dist N j).length rc) ∧ IntS w3 w1.heap.size sB (.slice R (dist N j).length rc) (dist N j) := fun j hj => by
    obtain ⟨u, a1, a2⟩ := HCD.out j hj
    rw [nthL_allDist N hj, ← HSB] at a2
    obtain ⟨R, rc, rfl⟩ := a2.shape
    exact ⟨R, rc, a1, a2⟩
  have HDR := Lib.hid hDR
  have hB3 : Hid (Below sB w3 w3) := Lib.hid (Below.refl _ _)
  clear HSB k0 k1 k2 hDR HCD
  go_loopw [19, 6] (fun i ov wr => ∃ (k : Nat) (os : List Int), k ≤ N.ends.length ∧ i = .int .i64 k ∧ OwnI wr sB 3 ov os ∧ Hid (os = (nearAll N zs).take k) ∧ os.length ≤ k ∧ sB ≤ wr.heap.size ∧ Hid (Below sB w3 wr) ∧
      Box3 wr w.heap.size 31 (.slice A N.ends.length c) (.slice A2 N.ids.length c2) (.slice A3 N.inputs.length c3) ∧ Below w.heap.size w wr) (fun i _ _ => N.ends.length - (intOf i).toNat)
  case atStart => exact ⟨0, [], Nat.zero_le _, rfl, OwnI.nil _ _ _, Lib.hid (by simp), Nat.zero_le _, hsB2, hB3, b3, hw3⟩
  case round =>
    clear b1 hw1 hsB2 b3 hw3 hB3
    obtain ⟨k, os, hk, rfl, ho, HD, hol, hs, HB3, hbx, hb⟩ := hrel
    by_cases hlt : k < N.ends.length
    case neg =>
      obtain rfl : k = N.ends.length := by omega
      go_wp2_with fail
      go_ret2
      refine ⟨_, ret_vb HG.out.symm, ?_, hb⟩
      have e : nearOut N zs = os := by unfold nearOut; rw [HG.out, if_pos rfl, HD.out, List.take_of_length_le (by rw [nearAll_length]; exact Nat.le_refl _)]
      rw [e]
      exact ho.ints.mono (by omega) (Nat.le_refl _)
    obtain ⟨R0, rc0, hcR0, hrR0⟩ := HDR.out k hlt
    have q3 := (HB3.out.cell (p := ⟨bD, oD + k, none⟩) (by show bD < _; omega)).trans hcR0
    have hr := hrR0.below HB3.out (Nat.le_refl _)
    rw [dist_len (good_nodes HGG.out) hlt] at q3
    have hlr := OwnI.lt ho
    obtain ⟨R, rc, er, hrc1, hrc2, hrcell⟩ := hr.form
    injection er with er1 _ er3
    subst er1 er3
    rw [dist_len (good_nodes HGG.out) hlt] at hrc1 hrcell
    obtain ⟨bR, oR, rfl, hbR1, hbR2, hcR⟩ := hrcell (by omega)
    have HCR := Lib.hid hcR
    unfold maxLen at hrc2
    clear hr hrcell hcR hcR0 hrR0
    obtain ⟨wo, rfl⟩ : ∃ wo : World, wo = wr := ⟨_, rfl⟩
    go_wp2_with fail
    go_loopw [25, 9] (fun i bv wi => ∃ (m nd : Nat) (best : Int), m ≤ zs.length ∧ i = .int .i64 m ∧ bv = .int .i64 best ∧ -1 ≤ best ∧ best < N.ends.length ∧ Hid (best = (zs.take m).foldl (nearStep (dist N k)) (-1)) ∧ wi = wo.drewN nd) (fun i _ _ => zs.length - (intOf i).toNat)
    case atStart => exact ⟨0, 0, -1, Nat.zero_le _, rfl, rfl, by omega, by omega, Lib.hid (by simp), rfl⟩
    case round =>
      obtain ⟨m, nd, best, hm, rfl, rfl, hb1, hb2, HF, rfl⟩ := hrel
      by_cases hml : m < zs.length
      case neg =>
        obtain rfl : m = zs.length := by omega
        go_wp2_with (at_builtin; refine append_int (s := .tmp 51) Try.underlying23 Try.info3 (by decide) (wo.drewN nd) rfl _ rfl (OwnI.drewN (ho) nd) best _ rfl (by simp [Act.eval, go_sem]) (by omega) (by show _ ≤ wo.heap.size; omega) ?_; intro v' w' ho' hg' hat')
        go_roundw
        case rel =>
          have hgr : wo.grownBy w' _ := ⟨hg'.os, hg'.tape, hg'.output, hg'.size, hg'.block⟩
          have hgs := hgr.size
          refine ⟨k + 1, os ++ [best], by omega, by go_num, ho', Lib.hid ?_, by simp; omega, by omega, Lib.hid (HB3.out.grown hgr hs fun g hg => (hlr g hg).1), Box3.grown hbx hgr (fun g hg => by have := hlr g hg; omega), Below.grown hb hgr (by have := (hb).size; omega) fun g hg => by have := hlr g hg; omega⟩
          rw [List.take_succ_eq_append_getElem (by rw [nearAll_length]; exact hlt), HD.out, HF.out, List.take_length]
          simp [nearAll, nearest]
        case measure => simp [intOf]; omega
      obtain ⟨bz, oz, rfl, hbz1, hbz2, hcz⟩ := HC.out (by omega)
      obtain ⟨t, ht, htl⟩ := nodeSet_mem HG.out hml
      have z1 := ((hb).cell (p := ⟨bz, oz + m, none⟩) (by show bz < _; omega)).trans (hcz m hml).1
      rw [ht] at z1
      have r1 := (HCR.out t htl).1
      obtain ⟨y, HY⟩ : ∃ y, Hid (nth (dist N k) t = y) := ⟨_, Lib.hid rfl⟩
      rw [HY.out] at r1
      have hti : (t : Int) < N.ends.length := by omega
      have hmi : (m : Int) < zs.length := by omega
      have HT := Lib.hid ht
      clear ht hcz
      have step : ∀ b', nearStep (dist N k) best t = b' → Hid (b' = (zs.take (m + 1)).foldl (nearStep (dist N k)) (-1)) := fun b' e => Lib.hid (by rw [foldl_take_succ _ _ _ hml, ← HF.out, HT.out, e])
      by_cases hy : 0 ≤ y
      case neg =>
        have g1 : decide (0 ≤ y) = false := decide_eq_false hy
        go_wp2_with fail
        go_quiet (fail)
        go_wp2_with fail
        go_roundw
        case rel => exact ⟨m + 1, nd + nq, best, by omega, by go_num, rfl, hb1, hb2, step best (by unfold nearStep; rw [Int.toNat_natCast, HY.out, if_neg (by omega)]), rfl⟩
        case measure => simp [intOf]; omega
      have g1 : decide (0 ≤ y) = true := decide_eq_true hy
      by_cases hbn : best < 0
      · have g2 : decide (best < 0) = true := decide_eq_true hbn
        go_wp2_with fail
        go_quiet (fail)
        go_wp2_with fail
        go_roundw
        case rel => exact ⟨m + 1, nd + nq, t, by omega, by go_num, rfl, by omega, by omega, step t (by unfold nearStep; rw [Int.toNat_natCast, HY.out, if_pos (by omega)]), rfl⟩
        case measure => simp [intOf]; omega
      have g2 : decide (best < 0) = false := decide_eq_false hbn
      obtain ⟨bn, rfl⟩ : ∃ bn : Nat, best = bn := ⟨best.toNat, by omega⟩
      have r2 := (HCR.out bn (by omega)).1
      obtain ⟨z, HZ⟩ : ∃ z, Hid (nth (dist N k) bn = z) := ⟨_, Lib.hid rfl⟩
      rw [HZ.out] at r2
      by_cases hyz : y < z
      · go_wp2_with fail
        go_quiet (fail)
        go_wp2_with fail
        go_roundw
        case rel => exact ⟨m + 1, nd + nq, t, by omega, by go_num, rfl, by omega, by omega, step t (by unfold nearStep; rw [Int.toNat_natCast, Int.toNat_natCast, HY.out, HZ.out, if_pos (by omega)]), rfl⟩
        case measure => simp [intOf]; omega
      · have g3 : decide (y < z) = false := decide_eq_false hyz
        go_wp2_with fail
        go_quiet (fail)
        go_wp2_with fail
        go_roundw
        case rel => exact ⟨m + 1, nd + nq, bn, by omega, by go_num, rfl, by omega, by omega, step bn (by unfold nearStep; rw [Int.toNat_natCast, Int.toNat_natCast, HY.out, HZ.out, if_neg (by omega)]), rfl⟩
        case measure => simp [intOf]; omega

end Go.Proofs.Ytgpbnanidjkliaa
