/-
  Several texts in one: IsNet, NearP, Comp, SSet, SSet2, BoolS, Grow, Find, Edge, Clus, Ori, Basics. No condition on any program.
-/
import Derived.Test.YtcmmklcampmkjaaBcD
import Derived.Test.YtcmmklcampmkjaaBcG
import Derived.Test.YtcmmklcampmkjaaBcA
import Derived.Test.YtcmmklcampmkjaaBcE
import Derived.Test.YtcmmklcampmkjaaShelf
import Derived.Deep.Cut
import Derived.Deep.RegionHeld3

/- Contract of the program's IsNetwork. -/
namespace Go.Proofs.Ytcmmklcampmkjaa
open Go.ChangeShapes Go.WideShapes Go.ChangeAt Go.RowKit
set_option linter.unusedVariables false

theorem hasPort_is (v : Value) (N : NetD) (x i : Int) (b : Bool) (hb : N.port x i = b) (lo hi : Nat) (w : World) (h : Net w lo hi v N) (hhi : hi ≤ w.heap.size) :
    Calls Try.prog 79 #[v, .int .i64 x, .int .i64 i] w fun e w' => e = .returned (.bool b) ∧ Below w.heap.size w w' := by
  rw [← hb]; exact hasPort_any v N x i lo hi w h hhi

set_option maxHeartbeats 4000000 in
set_option maxRecDepth 100000 in
theorem IsNetwork_any (v : Value) (N : NetD) (lo hi : Nat) (w : World) (h : Net w lo hi v N) (hhi : hi ≤ w.heap.size) (hsz : N.sz ≤ 1048576) :
    Calls Try.prog 57 #[v] w fun e w' => e = .returned (.bool N.good) ∧ Below w.heap.size w w' := by
  unfold NetD.sz at hsz
  have HNET := Lib.hid h
  obtain ⟨ve, vi, vn, rfl, he, hi1, hn1⟩ := h
  obtain ⟨A, c, rfl, hc1, hc2, hcell⟩ := he.form
  unfold maxLen at hc2
  have hle : N.ends.length ≤ 1048576 := by unfold szSS at hsz; omega
  obtain ⟨A2, c2, rfl⟩ := hi1.shape
  obtain ⟨A3, c3, rfl⟩ := hn1.shape
  have HI0 := Lib.hid hi1
  have HN0 := Lib.hid hn1
  obtain ⟨W0, HW0⟩ : ∃ W0, Hid (W0 = w.alloc (.cells #[.slice A N.ends.length c, .slice A2 N.ids.length c2, .slice A3 N.inputs.length c3] 34)) := ⟨_, Lib.hid rfl⟩
  have b0 : Box3 W0 w.heap.size 34 (.slice A N.ends.length c) (.slice A2 N.ids.length c2) (.slice A3 N.inputs.length c3) := by rw [HW0.out]; exact Box3.new w 34 _ _ _
  have hb0 : Below w.heap.size w W0 := by rw [HW0.out]; exact below_a1 _ _
  have hs0 : w.heap.size + 1 ≤ W0.heap.size := by rw [HW0.out]; simp
  clear he hi1 hn1
  by_cases g1 : inB N.ends.length 1 40 = true
  case neg =>
    have g1' : inB N.ends.length 1 40 = false := by simpa using g1
    clear g1 hcell b0
    go_enter Try.func57, Try.ntmps57
    go_wp2_with (go_at_call 76; refine (within_any _ _ _ _).mono ?_; rintro e w' ⟨rfl, rfl⟩)
    go_ret
    exact ⟨ret_bool (good_head (by unfold NetD.headOk; rw [g1']; rfl)).symm, below_a1 _ _⟩
  obtain ⟨n1, n40⟩ := inB_le g1
  obtain ⟨b, off, rfl, hb1, hb2, hcs⟩ := hcell (by omega)
  have HCS := Lib.hid hcs
  clear hcell hcs
  go_enter Try.func57, Try.ntmps57
  go_wp2_with (go_at_call 76; refine (within_any _ _ _ _).mono ?_; rintro e w' ⟨rfl, rfl⟩)
  rw [← HW0.out]
  clear HW0
  refine (idsOk_any _ N.ids _ lo hi _ (HI0.out.below hb0 hhi) (by omega) (by omega)).mono ?_
  rintro e w1 ⟨rfl, hb1'⟩
  have hs1 := hb1'.size
  have b1 := b0.below hb1' (by omega)
  have hw1 := hb0.trans (hb1'.mono (by omega))
  clear b0 hb0 hb1'
  by_cases g2 : idsGood N.ids N.ends.length = true
  case neg =>
    have g2' : idsGood N.ids N.ends.length = false := by simpa using g2
    rw [g2']
    go_wp2_with fail
    go_ret
    exact ⟨ret_bool (good_head (by unfold NetD.headOk; rw [g2']; simp)).symm, hw1⟩
  rw [g2]
  obtain ⟨c1', c2', c3'⟩ := b1.cells
  go_wp2_with fail
  clear c1' c2' c3'
  refine (inputsOk_any _ N.inputs _ lo hi _ (HN0.out.below hw1 hhi) (by omega)).mono ?_
  rintro e w2 ⟨rfl, hb2'⟩
  have hs2 := hb2'.size
  have b2 := b1.below hb2' (by omega)
  have hw2 := hw1.trans (hb2'.mono (by omega))
  clear b1 hw1 hb2'
  by_cases g3 : insGood N.inputs N.ends.length = true
  case neg =>
    have g3' : insGood N.inputs N.ends.length = false := by simpa using g3
    rw [g3']
    go_wp2_with fail
    go_ret
    exact ⟨ret_bool (good_head (by unfold NetD.headOk; rw [g3']; simp)).symm, hw2⟩
  rw [g3]
  have HD := Lib.hid (show N.headOk = true by unfold NetD.headOk; rw [g1, g2, g3]; rfl)
  have d1' := b2.cells.1
  go_wp2_with fail
  clear d1'
  go_loopw [33] (fun i wr => ∃ k : Nat, k ≤ N.ends.length ∧ i = .int .i64 k ∧ Hid (∀ j, j < k → N.rowOk j = true) ∧ Box3 wr w.heap.size 34 (.slice (some ⟨b, off, none⟩) N.ends.length c) (.slice A2 N.ids.length c2) (.slice A3 N.inputs.length c3) ∧ Below w.heap.size w wr) (fun i _ => N.ends.length - (intOf i).toNat)
  case atStart => exact ⟨0, Nat.zero_le _, rfl, Lib.hid fun j hj => absurd hj (by omega), b2, hw2⟩
  case round =>
    clear b2 hw2
    obtain ⟨k, hk, rfl, HU, hbx, hb⟩ := hrel
    have hs0 := hb.size
    by_cases hlt : k < N.ends.length
    case neg =>
      obtain rfl : k = N.ends.length := by omega
      go_wp2
      go_ret
      exact ⟨ret_bool (good_yes HD.out HU.out).symm, hb⟩
    obtain ⟨u, hu, hR⟩ := HCS.out k hlt
    obtain ⟨A4, c4, rfl, hd1, hd2, hcell4⟩ := hR.form
    unfold maxLen at hd2
    have hck := (hb.cell (p := ⟨b, off + k, none⟩) (by show b < _; omega)).trans hu
    have HC4 := Lib.hid hcell4
    clear hu hcell4 hR
    by_cases hl6 : (nthL N.ends k).length ≤ 6
    case neg =>
      have hl6' : (6 : Int) < (nthL N.ends k).length := by omega
      go_wp2
      go_ret
      exact ⟨ret_bool (good_row hlt (row_wide (by omega))).symm, hb⟩
    obtain ⟨wo, rfl⟩ : ∃ wo : World, wo = wr := ⟨_, rfl⟩
    go_wp2
    go_loopw [43] (fun i wi => ∃ m : Nat, m ≤ (nthL N.ends k).length ∧ i = .int .i64 m ∧ Hid (∀ j, j < m → N.endOk k j = true) ∧ Box3 wi w.heap.size 34 (.slice (some ⟨b, off, none⟩) N.ends.length c) (.slice A2 N.ids.length c2) (.slice A3 N.inputs.length c3) ∧ Below w.heap.size w wi) (fun i _ => (nthL N.ends k).length - (intOf i).toNat)
    case atStart => exact ⟨0, Nat.zero_le _, rfl, Lib.hid fun j hj => absurd hj (by omega), hbx, hb⟩
    case round =>
      clear hbx hb hck
      obtain ⟨m, hm, rfl, HV, hbx, hb⟩ := hrel
      have hs1 := hb.size
      by_cases hml : m < (nthL N.ends k).length
      case neg =>
        obtain rfl : m = (nthL N.ends k).length := by omega
        go_wp2
        go_roundw
        case rel =>
          refine ⟨k + 1, by omega, by go_num, Lib.hid fun j hj => ?_, hbx, hb⟩
          by_cases e : j = k
          · subst e; exact row_yes hl6 HV.out
          · exact HU.out j (by omega)
        case measure => simp [intOf]; omega
      obtain ⟨b4, off4, rfl, hb5, hb6, hcs4⟩ := HC4.out (by omega)
      obtain ⟨x1, x2⟩ := hcs4 m hml
      have e1 := (hb.cell (p := ⟨b4, off4 + m * 2, none⟩) (by show b4 < _; omega)).trans x1
      have e2 := (hb.cell (p := ⟨b4, off4 + m * 2 + 1, none⟩) (by show b4 < _; omega)).trans x2
      clear hcs4 x1 x2
      obtain ⟨p1, p2, HP⟩ : ∃ p1 p2, Hid (nthE (nthL N.ends k) m = (p1, p2)) := ⟨_, _, Lib.hid rfl⟩
      rw [HP.out] at e1 e2
      dsimp only at e1 e2
      obtain ⟨W, HW⟩ : ∃ W, Hid (W = wr.alloc (.cells #[.int .i64 p1, .int .i64 p2] 60)) := ⟨_, Lib.hid rfl⟩
      have hbW : Below w.heap.size w W := by rw [HW.out]; exact hb.alloc hs1 _
      have hbxW : Box3 W w.heap.size 34 (.slice (some ⟨b, off, none⟩) N.ends.length c) (.slice A2 N.ids.length c2) (.slice A3 N.inputs.length c3) := by rw [HW.out]; exact hbx.alloc _
      have hsW : W.heap.size = wr.heap.size + 1 := by rw [HW.out]; simp
      have o0 : W.cell? ⟨wr.heap.size, 0, none⟩ = some (.int .i64 p1) := by rw [HW.out, World.cell?_alloc_at _ _ _ _ rfl]; rfl
      have o1 : W.cell? ⟨wr.heap.size, 1, none⟩ = some (.int .i64 p2) := by rw [HW.out, World.cell?_alloc_at _ _ _ _ rfl]; rfl
      have NW := Lib.hid (HNET.out.below hbW hhi)
      have hsW' : w.heap.size + 1 ≤ W.heap.size := by have := hbx.lt; omega
      have r0 := ext_cell W (a := ⟨w.heap.size, 0, none⟩) (by show w.heap.size < W.heap.size; omega) hbxW.cells.1
      have r1 := ext_cell W (a := ⟨w.heap.size, 1, none⟩) (by show w.heap.size < W.heap.size; omega) hbxW.cells.2.1
      have r2 := ext_cell W (a := ⟨w.heap.size, 2, none⟩) (by show w.heap.size < W.heap.size; omega) hbxW.cells.2.2
      have r3 := ext_cell W (a := ⟨wr.heap.size, 0, none⟩) (by show wr.heap.size < W.heap.size; omega) o0
      have r4 := ext_cell W (a := ⟨wr.heap.size, 1, none⟩) (by show wr.heap.size < W.heap.size; omega) o1
      have HSW := Lib.hid hsW
      clear hsW o0 o1
      by_cases k1 : N.port p1 p2 = true
      case neg =>
        have k1' : N.port p1 p2 = false := by simpa using k1
        have K1 := Lib.hid k1'
        clear k1 k1'
        go_wp2
        rw [← HW.out]
        refine wp_region_ext (by kernel_rfl) (by kernel_rfl) ?_
        repeat (go_big_quiet_step ((go_at_call 79; exact ext_call (hasPort_is _ N _ _ false K1.out lo hi _ (NW.out.below (ext_below _ _) (by omega)) (Nat.le_trans (by omega) (ext_size _ _))))))
        refine wpQuiet_nil ?_
        intro _ hw'
        obtain ⟨px, hw''⟩ := hw'
        subst hw''
        go_wp2
        go_ret
        exact ⟨ret_bool (good_row hlt (row_end hml (by unfold NetD.endOk; rw [HP.out]; dsimp only; rw [K1.out]; rfl))).symm, hbW.trans ((ext_below _ _).mono (by omega))⟩
      have K1 := Lib.hid k1
      unfold NetD.port at k1
      rw [Bool.and_eq_true] at k1
      obtain ⟨k1a, k1b⟩ := k1
      obtain ⟨y1, y2⟩ := inB_le k1a
      obtain ⟨t, rfl⟩ : ∃ t : Nat, p1 = t := ⟨p1.toNat, by omega⟩
      rw [Int.toNat_natCast] at k1b
      obtain ⟨z1, z2⟩ := inB_le k1b
      obtain ⟨r, rfl⟩ : ∃ r : Nat, p2 = r := ⟨p2.toNat, by omega⟩
      have htl : t < N.ends.length := by omega
      obtain ⟨u5, hu5, hR5⟩ := HCS.out t htl
      obtain ⟨A5, c5, rfl, hf1, hf2, hcell5⟩ := hR5.form
      unfold maxLen at hf2
      have hrl : r < (nthL N.ends t).length := by omega
      have hti : (t : Int) < N.ends.length := by omega
      have hri : (r : Int) < (nthL N.ends t).length := by omega
      obtain ⟨b6, off6, rfl, hb7, hb8, hcs6⟩ := hcell5 (by omega)
      obtain ⟨f1, f2⟩ := hcs6 r hrl
      have q5 := ext_cell W (a := ⟨b, off + t, none⟩) (by show b < W.heap.size; omega) ((hbW.cell (p := ⟨b, off + t, none⟩) (by show b < _; omega)).trans hu5)
      have d1 := ext_cell W (a := ⟨b6, off6 + r * 2, none⟩) (by show b6 < W.heap.size; omega) ((hbW.cell (p := ⟨b6, off6 + r * 2, none⟩) (by show b6 < _; omega)).trans f1)
      have d2 := ext_cell W (a := ⟨b6, off6 + r * 2 + 1, none⟩) (by show b6 < W.heap.size; omega) ((hbW.cell (p := ⟨b6, off6 + r * 2 + 1, none⟩) (by show b6 < _; omega)).trans f2)
      obtain ⟨s1, s2, HQ⟩ : ∃ s1 s2, Hid (nthE (nthL N.ends t) r = (s1, s2)) := ⟨_, _, Lib.hid rfl⟩
      rw [HQ.out] at d1 d2
      dsimp only at d1 d2
      clear f1 f2 hcs6 hcell5 hu5 hR5 k1a k1b
      by_cases k3 : ((s1, s2) : Int × Int) = ((k : Int), (m : Int))
      case neg =>
        have k3' : ∀ w, (binOp .neq 60 (.agg #[.int .i64 s1, .int .i64 s2]) (.agg #[.int .i64 k, .int .i64 m])).run Try.prog w = .ok (.bool true) w := fun w => by
          rw [neq_end, show (!(s1 == (k : Int) && s2 == (m : Int))) = true by
            rw [Bool.not_eq_true', Bool.and_eq_false_iff]; simp only [Prod.mk.injEq] at k3; by_cases q : s1 = (k : Int)
            · right; simpa using fun e => k3 ⟨q, e⟩
            · left; simpa using q]
        have K3 := Lib.hid k3
        clear k3
        go_wp2
        rw [← HW.out]
        refine wp_region_ext (by kernel_rfl) (by kernel_rfl) ?_
        repeat (go_big_quiet_step ((go_at_call 79; exact ext_call (hasPort_is _ N _ _ true K1.out lo hi _ (NW.out.below (ext_below _ _) (by omega)) (Nat.le_trans (by omega) (ext_size _ _))))))
        refine wpQuiet_nil ?_
        intro _ hw'
        obtain ⟨px, hw''⟩ := hw'
        subst hw''
        go_wp2
        go_ret
        exact ⟨ret_bool (good_row hlt (row_end hml (by unfold NetD.endOk; rw [HP.out]; dsimp only; rw [Int.toNat_natCast, Int.toNat_natCast, HQ.out, decide_eq_false K3.out, Bool.and_false]))).symm, hbW.trans ((ext_below _ _).mono (by omega))⟩
      have k3' : ∀ w, (binOp .neq 60 (.agg #[.int .i64 s1, .int .i64 s2]) (.agg #[.int .i64 k, .int .i64 m])).run Try.prog w = .ok (.bool false) w := fun w => by
        simp only [Prod.mk.injEq] at k3
        rw [neq_end, k3.1, k3.2]; simp
      have K3 := Lib.hid k3
      clear k3
      go_wp2
      rw [← HW.out]
      refine wp_region_ext (by kernel_rfl) (by kernel_rfl) ?_
      repeat (go_big_quiet_step ((go_at_call 79; exact ext_call (hasPort_is _ N _ _ true K1.out lo hi _ (NW.out.below (ext_below _ _) (by omega)) (Nat.le_trans (by omega) (ext_size _ _))))))
      refine wpQuiet_nil ?_
      intro _ hw'
      obtain ⟨px, hw''⟩ := hw'
      subst hw''
      go_wp2
      go_roundw
      case rel =>
        refine ⟨m + 1, by omega, by go_num, Lib.hid fun j hj => ?_, hbxW.below (ext_below _ _) (by omega), hbW.trans ((ext_below _ _).mono (by omega))⟩
        by_cases e : j = m
        · subst e
          unfold NetD.endOk
          rw [HP.out]
          dsimp only
          rw [Int.toNat_natCast, Int.toNat_natCast, HQ.out, decide_eq_true K3.out, Bool.and_true]
          exact K1.out
        · exact HV.out j (by omega)
      case measure => simp [intOf]; omega

end Go.Proofs.Ytcmmklcampmkjaa

/- Contracts of allDistances, isNodeSet, ruSet, slices.Contains. -/
namespace Go.Proofs.Ytcmmklcampmkjaa
open Go.ChangeShapes Go.WideShapes Go.ChangeAt Go.RowKit
set_option linter.unusedVariables false

theorem good_degs {N : NetD} (h : N.good = true) : ∀ u, u < N.ends.length → (nthL N.ends u).length ≤ 1048576 := fun u hu => by have := good_deg h hu; omega

theorem contains_any (v : Value) (zs : List Int) (x : Int) (lo hi : Nat) (w : World) (h : IntS w lo hi v zs) :
    Calls Try.prog 42 #[v, .int .i64 x] w fun e w' => e = .returned (.bool (decide (x ∈ zs))) ∧ w = w' := by
  obtain ⟨A, c, rfl, hc1, hc2, hcell⟩ := h.form
  rcases Nat.eq_zero_or_pos zs.length with h0 | h0
  · obtain rfl : zs = [] := List.eq_nil_of_length_eq_zero h0
    refine (Try.slices_Contains_int_empty _ _ _ _).mono ?_
    rintro e w' ⟨rfl, rfl⟩
    exact ⟨ret_bool (by simp), rfl⟩
  · obtain ⟨b, off, rfl, hb1, hb2, hcs⟩ := hcell h0
    unfold maxLen at hc2
    refine (Try.slices_Contains_int b off zs.length c zs x w (Nat.le_refl _) (by omega) (fun j hj => (hcs j hj).1)).mono ?_
    rintro e w' ⟨rfl, rfl⟩
    rw [List.take_length]
    exact ⟨ret_bool (by rw [Bool.eq_iff_iff]; simp), rfl⟩

end Go.Proofs.Ytcmmklcampmkjaa

/- Contracts: components of a network (program and reference), the greatest of some numbers. -/
namespace Go.Proofs.Ytcmmklcampmkjaa
open Go.ChangeShapes Go.WideShapes Go.ChangeAt Go.RowKit
set_option linter.unusedVariables false

def ballL (ds : List Int) (r : Int) (m : Nat) : List Int := ((List.range m).filter fun w => inB (nth ds w) 0 r).map fun (w : Nat) => (w : Int)
theorem ballL_yes {ds : List Int} {r : Int} {m : Nat} (h : inB (nth ds m) 0 r = true) : ballL ds r (m + 1) = ballL ds r m ++ [(m : Int)] := by simp [ballL, List.range_succ, h]
theorem ballL_no {ds : List Int} {r : Int} {m : Nat} (h : inB (nth ds m) 0 r = false) : ballL ds r (m + 1) = ballL ds r m := by simp [ballL, List.range_succ, h]
theorem ballL_len (ds : List Int) (r : Int) (m : Nat) : (ballL ds r m).length ≤ m := by
  unfold ballL; rw [List.length_map]; exact Nat.le_trans (List.length_filter_le _ _) (by simp)
def ball (N : NetD) (v : Nat) (r : Int) : List Int := ballL (dist N v) r N.ends.length
set_option maxHeartbeats 4000000 in
set_option maxRecDepth 100000 in
theorem meBall_any (v1 : Value) (N : NetD) (lo1 hi1 : Nat) (v : Nat) (r : Int) (w : World) (h1 : Net w lo1 hi1 v1 N) (hh1 : hi1 ≤ w.heap.size) (hg : N.good = true) (hv : v < N.ends.length) :
    Calls Try.prog 86 #[v1, .int .i64 (v : Nat), .int .i64 r] w fun e w' => ∃ q, e = .returned (q) ∧ IntS w' w.heap.size w'.heap.size q (ball N v r) ∧ Below w.heap.size w w' := by
  obtain ⟨n1, n40⟩ := good_n hg
  have HG := Lib.hid hg; clear hg
  have F1 := Lib.hid h1
  obtain ⟨A1, c1, A1', c1', A1'', c1'', rfl, hc1, hd1, _⟩ := h1.parts
  obtain ⟨b1, o1, _, _, rfl, _⟩ := Net.rowAt F1.out (u := 0) (by omega)
  clear h1
  obtain ⟨WA, HWA⟩ : ∃ W, Hid (W = (w.alloc (.cells #[.slice (some ⟨b1, o1, none⟩) N.ends.length c1, .slice A1' N.ids.length c1', .slice A1'' N.inputs.length c1''] 34))) := ⟨_, Lib.hid rfl⟩
  have hbA : Below w.heap.size w WA := by rw [HWA.out]; exact ((Below.refl _ _).alloc (Nat.le_refl _) _)
  have hsA : w.heap.size + 1 ≤ WA.heap.size := by rw [HWA.out]; simp; try omega
  have bx1 : BoxN WA (w.heap.size) #[.slice (some ⟨b1, o1, none⟩) N.ends.length c1, .slice A1' N.ids.length c1', .slice A1'' N.inputs.length c1''] 34 := by rw [HWA.out]; exact (BoxN.new' _ _ _ (by simp))
  have G1 := Lib.hid (Net.below F1.out hbA hh1); clear F1
  go_enter Try.func86, Try.ntmps86
  go_upto_region 1 with (fail)
  rw [← HWA.out]; clear HWA
  have kbx1_0 : WA.cell? ⟨w.heap.size, 0, none⟩ = some (.slice (some ⟨b1, o1, none⟩) N.ends.length c1) := bx1.cell 0 (by simp)
  have kbx1_1 : WA.cell? ⟨w.heap.size, 1, none⟩ = some (.slice A1' N.ids.length c1') := bx1.cell 1 (by simp)
  have kbx1_2 : WA.cell? ⟨w.heap.size, 2, none⟩ = some (.slice A1'' N.inputs.length c1'') := bx1.cell 2 (by simp)
  go_wp2_with fail
  clear kbx1_0 kbx1_1 kbx1_2
  refine (meFrom_any _ N v lo1 hi1 _ G1.out (by omega) hv (by omega) (good_nodes HG.out) (good_degs HG.out)).mono ?_
  rintro e W1 ⟨rd, rfl, hrd, hb1⟩
  have hg1 := grown_below hb1; clear hb1
  have hs1 := hg1.size
  have HF1 := Lib.hid ((Turned.refl WA.heap.size WA.heap.size WA).still hg1)
  have R1 := Lib.hid hrd; clear hrd
  obtain ⟨Ar, cr, rfl, hcr, hdr⟩ := R1.out.dims
  have HDL := Lib.hid (dist_len (good_nodes HG.out) hv)
  rw [HDL.out] at hcr ⊢
  obtain ⟨bR, oR, rfl, _, hbR, _, _⟩ := IntS.opened R1.out (j := 0) (by rw [HDL.out]; omega)
  rw [HDL.out] at R1
  have N_1 := Lib.hid (Net.turned G1.out HF1.out (by omega) (by omega)); clear G1
  have bx1_1 := HF1.out.boxN bx1 (by omega); clear bx1
  have hbA1 := (HF1.out.below_of hbA (by omega) (by omega)); clear hbA HF1
  go_wp2_with fail
  go_loopw [14, 7] (fun i ov wr => ∃ (m : Nat), m ≤ N.ends.length ∧ i = .int .i64 m ∧ Hid (OwnI wr W1.heap.size 3 ov (ballL (dist N v) r m)) ∧ Hid (Turned W1.heap.size W1.heap.size W1 wr)) (fun i ov _ => N.ends.length - (intOf i).toNat)
  case atStart => exact ⟨0, Nat.zero_le _, rfl, Lib.hid (OwnI.nil _ _ _), Lib.hid (Turned.refl W1.heap.size W1.heap.size W1)⟩
  case round =>
    obtain ⟨m, hm, rfl, HO, HF2⟩ := hrel
    have hs2 := HF2.out.size
    have hul := ballL_len (dist N v) r m
    by_cases hml : m < N.ends.length
    case neg =>
      obtain rfl : m = N.ends.length := by omega
      obtain ⟨Az, cz, rfl, hcz, hdz⟩ := HO.out.ints.dims
      go_wp2_with fail
      go_ret
      exact ⟨_, rfl, HO.out.ints.mono (by omega) (Nat.le_refl _), (HF2.out.below_of hbA1 (by omega) (by omega))⟩
    obtain ⟨x1, _⟩ := ((IntS.turned R1.out HF2.out (by omega) (by omega))).at_ (j := m) (by rw [HDL.out]; exact hml)
    obtain ⟨d, HDD⟩ : ∃ d, Hid (nth (dist N v) m = d) := ⟨_, Lib.hid rfl⟩
    rw [HDD.out] at x1
    have hmi : (m : Int) < N.ends.length := by omega
    have hlv := HO.out.lt
    cases hin : inB d 0 r with
    | false =>
      have HIN := Lib.hid hin; clear hin
      have HB := Lib.hid (ballL_no (ds := dist N v) (r := r) (m := m) (by rw [HDD.out]; exact HIN.out))
      go_wp2_with (go_at_call 70; refine (l1In_any _ _ _ _).mono ?_; rintro e w' ⟨rfl, rfl⟩; rw [HIN.out])
      go_roundw
      case rel => exact ⟨m + 1, by omega, by go_num, by rw [HB.out]; exact HO, HF2⟩
      case measure => simp [intOf]; omega
    | true =>
      have HIN := Lib.hid hin; clear hin
      have HB := Lib.hid (ballL_yes (ds := dist N v) (r := r) (m := m) (by rw [HDD.out]; exact HIN.out))
      go_wp2_with (first | (go_at_call 70; refine (l1In_any _ _ _ _).mono ?_; rintro e w' ⟨rfl, rfl⟩; rw [HIN.out]) | (at_builtin; refine append_int (s := .tmp 22) Try.underlying23 Try.info3 (by decide) wr rfl _ rfl HO.out m _ rfl (by simp [Act.eval, go_sem]) (by omega) (by omega) ?_; intro v' w' ho' hg' hat'))
      go_roundw
      case rel => exact ⟨m + 1, by omega, by go_num, by rw [HB.out]; exact Lib.hid ho', Lib.hid (HF2.out.grown hg' fun g hg => .inr (hlv g hg).1)⟩
      case measure => simp [intOf]; omega

end Go.Proofs.Ytcmmklcampmkjaa

/- Slices of slices of numbers that a call writes into: one number set, one row set. No condition on any program. -/
namespace Go.Proofs.Ytcmmklcampmkjaa
open Go.RowKit
set_option linter.unusedVariables false

/-- one number of a list of lists replaced -/
def setAt (xss : List (List Int)) (a i : Nat) (z : Int) : List (List Int) := xss.set a ((nthL xss a).set i z)
theorem setAt_length (xss : List (List Int)) (a i : Nat) (z : Int) : (setAt xss a i z).length = xss.length := by simp [setAt]
theorem nthL_set {α : Type} {xss : List (List α)} {a : Nat} (ha : a < xss.length) (x : List α) (j : Nat) : nthL (xss.set a x) j = if j = a then x else nthL xss j := by
  unfold nthL
  simp only [List.getD_eq_getElem?_getD, List.getElem?_set]
  by_cases e : a = j
  · subst e; simp [ha]
  · rw [if_neg e, if_neg (fun h => e h.symm)]
theorem nthL_setAt {xss : List (List Int)} {a : Nat} (ha : a < xss.length) (i : Nat) (z : Int) (j : Nat) : nthL (setAt xss a i z) j = if j = a then (nthL xss a).set i z else nthL xss j := nthL_set ha _ _
theorem setAt_row (xss : List (List Int)) {a : Nat} (ha : a < xss.length) (i : Nat) (z : Int) (j : Nat) : (nthL (setAt xss a i z) j).length = (nthL xss j).length := by
  rw [nthL_setAt ha]
  by_cases e : j = a
  · rw [if_pos e, List.length_set, e]
  · rw [if_neg e]

/-- a place of a slice of slices whose rows lie apart: its cells, and what a store leaves -/
theorem ISSx.place {w : World} {lo hi n c : Nat} {A : Option Addr} {xss : List (List Int)} (h : IntSSx w lo hi (.slice A n c) xss) (hh : hi ≤ w.heap.size) {a i : Nat} (ha : a < xss.length) (hi' : i < (nthL xss a).length) :
    ∃ b off b2 o2 c2, A = some ⟨b, off, none⟩ ∧ lo ≤ b ∧ b < hi ∧ lo ≤ b2 ∧ b2 < hi ∧ w.cell? ⟨b, off + a, none⟩ = some (.slice (some ⟨b2, o2, none⟩) (nthL xss a).length c2) ∧ (nthL xss a).length ≤ c2 ∧ c2 ≤ 9223372036854775807 ∧
      w.cell? ⟨b2, o2 + i, none⟩ = some (.int .i64 (nth (nthL xss a) i)) ∧ w.frozen? ⟨b2, o2 + i, none⟩ = false ∧ ∀ z, IntSSx (w.setCell ⟨b2, o2 + i, none⟩ (.int .i64 z)) lo hi (.slice A n c) (setAt xss a i z) := by
  obtain ⟨vs, h1, h2, h3, h4⟩ := h
  have hrow := h2 a ha
  obtain ⟨A2, c2, e2, k1, k2⟩ := IntS.dims hrow
  rw [e2] at hrow
  obtain ⟨b2, o2, rfl, l1, l2, x1, x2⟩ := IntS.opened hrow hi'
  have htop := h1
  obtain ⟨A', c', e, m1, m2, m3⟩ := h1
  injection e with e3 e4 e5
  subst e3 e5
  obtain ⟨b, off, rfl, n1, n2, n3⟩ := m3 (by omega)
  have hva : w.cell? ⟨b, off + a, none⟩ = some (vs a) := (n3 a (by omega)).1
  rw [e2] at hva
  refine ⟨b, off, b2, o2, c2, rfl, n1, n2, l1, l2, hva, k1, k2, x1, x2, fun z => ?_⟩
  have hra : rowOf (nthL xss a).length (vs a) = some b2 := by rw [e2]; exact rowOf_some (by omega)
  have hg : w.grownBy (w.setCell ⟨b2, o2 + i, none⟩ (.int .i64 z)) (some b2) := grown_set w ⟨b2, o2 + i, none⟩ _
  have hlen : ∀ j, (nthL (setAt xss a i z) j).length = (nthL xss j).length := setAt_row xss ha i z
  refine ⟨vs, ?_, fun j hj => ?_, fun j k hjk hk => ?_, fun j hj => ?_⟩
  · rw [setAt_length]
    refine Sl.grown htop hg hh ?_
    have := h4 a ha
    rw [hra] at this
    rcases this with t | t
    · cases t
    · exact .inr fun e => t e.symm
  · rw [setAt_length] at hj
    rw [nthL_setAt ha]
    by_cases ej : j = a
    · subst ej
      rw [if_pos rfl, e2]
      exact hrow.set hi' z
    · rw [if_neg ej]
      refine Sl.grown (h2 j hj) hg hh ?_
      rw [← hra]
      by_cases hlt : j < a
      · exact h3 j a hlt ha
      · rcases h3 a j (by omega) hj with t | t
        · rw [hra] at t; cases t
        · exact .inr fun e => t e.symm
  · rw [setAt_length] at hk
    rw [hlen j, hlen k]
    exact h3 j k hjk hk
  · rw [setAt_length] at hj ⊢
    rw [hlen j]
    exact h4 j hj

theorem ISSx.far {w w' : World} {lo hi : Nat} {v : Value} {xss : List (List Int)} {row : Option Nat} (h : IntSSx w lo hi v xss) (hg : w.grownBy w' row) (hB : hi ≤ w.heap.size) (hr : ∀ g, row = some g → g < lo ∨ hi ≤ g) : IntSSx w' lo hi v xss :=
  SSx.keep (fun h => IntS.far h hg hB hr) h fun k h1 h2 => hg.block k (by omega) (fun e => by have := hr k e.symm; omega)
theorem ISSx.still {w w' : World} {lo hi : Nat} {v : Value} {xss : List (List Int)} (h : IntSSx w lo hi v xss) (hg : w.grownBy w' none) (hB : hi ≤ w.heap.size) : IntSSx w' lo hi v xss := ISSx.far h hg hB (no_row _ _)
theorem ISSx.dims {w : World} {lo hi : Nat} {v : Value} {xss : List (List Int)} (h : IntSSx w lo hi v xss) : ∃ A c, v = .slice A xss.length c ∧ xss.length ≤ c ∧ c ≤ 9223372036854775807 := SS.dims h.ss
/-- a row of empty slices just made -/
theorem ISSx.made {w : World} {b n : Nat} {t : TypeId} (h : w.rowIs b t n (fun _ => .slice none 0 0)) (hm : n ≤ maxLen) : IntSSx w b (b + 1) (.slice (some ⟨b, 0, none⟩) n n) (List.replicate n []) := by
  refine ⟨fun _ => .slice none 0 0, ?_, fun j hj => ?_, fun j k hjk hk => ?_, fun j hj => ?_⟩
  · refine ⟨_, _, by rw [List.length_replicate], by rw [List.length_replicate]; exact Nat.le_refl _, hm, fun hpos => ⟨b, 0, rfl, Nat.le_refl _, by omega, fun j hj => ?_⟩⟩
    rw [List.length_replicate] at hj
    rw [Nat.zero_add]
    exact ⟨h.cell (by omega), h.frozen j⟩
  · have : nthL (List.replicate n ([] : List Int)) j = [] := by simp [nthL, List.getElem?_replicate]; split <;> rfl
    rw [this]; exact IntS.nil _ _ _
  · left; unfold rowOf; rw [if_pos]; simp [nthL, List.getElem?_replicate]; split <;> rfl
  · left; unfold rowOf; rw [if_pos]; simp [nthL, List.getElem?_replicate]; split <;> rfl

end Go.Proofs.Ytcmmklcampmkjaa

/- Slices of slices of numbers that a call writes into: two numbers set. No condition on any program. -/
namespace Go.Proofs.Ytcmmklcampmkjaa
open Go.RowKit
set_option linter.unusedVariables false

theorem ISSx.apart {w : World} {lo hi n c : Nat} {b off b2 o2 n2 c2 : Nat} {xss : List (List Int)} (h : IntSSx w lo hi (.slice (some ⟨b, off, none⟩) n c) xss) {a : Nat} (ha : a < xss.length) (hpos : 0 < (nthL xss a).length) (hc : w.cell? ⟨b, off + a, none⟩ = some (.slice (some ⟨b2, o2, none⟩) n2 c2)) : b ≠ b2 := by
  obtain ⟨vs, h1, h2, h3, h4⟩ := h
  obtain ⟨A', c', e, m1, m2, m3⟩ := h1
  injection e with e3 e4 e5
  subst e3 e4 e5
  obtain ⟨b', off', e6, n1, n2', n3⟩ := m3 (by omega)
  injection e6 with e6
  injection e6 with e7 e8
  subst e7 e8
  have hva := (n3 a (by omega)).1
  rw [hc] at hva
  injection hva with hva
  have hr := h4 a ha
  rw [← hva, rowOf_some (show 0 < xss.length by omega)] at hr
  unfold rowOf at hr
  rw [if_neg (by omega)] at hr
  rcases hr with t | t
  · cases t
  · intro e; exact t (by rw [e]; rfl)
end Go.Proofs.Ytcmmklcampmkjaa

/- Slices of truth values in memory; plain laws on least free numbers and on permutations. -/
namespace Go.Proofs.Ytcmmklcampmkjaa
open Go.RowKit
set_option linter.unusedVariables false

def nthB (bs : List Bool) (i : Nat) : Bool := bs.getD i false
theorem nthB_eq {bs : List Bool} {i : Nat} (h : i < bs.length) : nthB bs i = bs[i] := by simp [nthB, h]
theorem nthB_set (bs : List Bool) (j i : Nat) (b : Bool) (hj : j < bs.length) : nthB (bs.set j b) i = if i = j then b else nthB bs i := by
  unfold nthB
  simp only [List.getD_eq_getElem?_getD, List.getElem?_set]
  by_cases e : j = i
  · subst e; simp [hj]
  · rw [if_neg e, if_neg (fun h => e h.symm)]
theorem nthB_replicate (n : Nat) (b : Bool) {i : Nat} (h : i < n) : nthB (List.replicate n b) i = b := by rw [nthB_eq (by simpa using h)]; simp
/-- v reads as the list of truth values bs -/
def BoolS (w : World) (lo hi : Nat) (v : Value) (bs : List Bool) : Prop := Sl w lo hi 1 v bs.length fun j => .bool (nthB bs j)
section
variable {w w' : World} {lo hi lo' hi' B l2 h2 : Nat} {v : Value} {bs : List Bool} {row : Option Nat}
theorem BoolS.dims (h : BoolS w lo hi v bs) : ∃ A c, v = .slice A bs.length c ∧ bs.length ≤ c ∧ c ≤ 9223372036854775807 := by
  obtain ⟨A, c, e, h1, h2, _⟩ := h; unfold maxLen at h2; exact ⟨A, c, e, h1, h2⟩
theorem BoolS.below (h : BoolS w lo hi v bs) (hb : Below B w w') (hB : hi ≤ B) : BoolS w' lo hi v bs := Sl.below h hb hB
theorem BoolS.turned (h : BoolS w lo hi v bs) (hb : Turned l2 h2 w w') (hB : hi ≤ w.heap.size) (hd : hi ≤ l2 ∨ h2 ≤ lo) : BoolS w' lo hi v bs := Sl.turned h hb hB hd
theorem BoolS.mono (h : BoolS w lo hi v bs) (h1 : lo' ≤ lo) (h2 : hi ≤ hi') : BoolS w lo' hi' v bs := Sl.mono h h1 h2
theorem BoolS.far (h : BoolS w lo hi v bs) (hg : w.grownBy w' row) (hB : hi ≤ w.heap.size) (hr : ∀ g, row = some g → g < lo ∨ hi ≤ g) : BoolS w' lo hi v bs :=
  Sl.keep h fun k h1 h2 => hg.block k (by omega) (fun e => by have := hr k e.symm; omega)
theorem BoolS.still (h : BoolS w lo hi v bs) (hg : w.grownBy w' none) (hB : hi ≤ w.heap.size) : BoolS w' lo hi v bs := h.far hg hB (no_row _ _)
theorem BoolS.at_ {b off n c : Nat} (h : BoolS w lo hi (.slice (some ⟨b, off, none⟩) n c) bs) {j : Nat} (hj : j < bs.length) : w.cell? ⟨b, off + j, none⟩ = some (.bool (nthB bs j)) ∧ w.frozen? ⟨b, off + j, none⟩ = false := by
  obtain ⟨A, c', e, _⟩ := id h
  injection e with e1 e2 e3
  subst e2
  exact Sl.at_ h (by omega)
theorem BoolS.set {b off n c : Nat} (h : BoolS w lo hi (.slice (some ⟨b, off, none⟩) n c) bs) {j : Nat} (hj : j < bs.length) (z : Bool) :
    BoolS (w.setCell ⟨b, off + j, none⟩ (.bool z)) lo hi (.slice (some ⟨b, off, none⟩) n c) (bs.set j z) := by
  obtain ⟨A, c', e, _⟩ := id h
  injection e with e1 e2 e3
  subst e2
  have := Sl.set h (j := j) (by omega) (.bool z)
  unfold BoolS
  rw [List.length_set]
  exact this.congr fun i hi => by
    rw [nthB_set _ _ _ _ hj]
    by_cases e : i = j <;> simp [e]
theorem BoolS.at0 {b n c : Nat} (h : BoolS w lo hi (.slice (some ⟨b, 0, none⟩) n c) bs) {j : Nat} (hj : j < bs.length) : w.cell? ⟨b, j, none⟩ = some (.bool (nthB bs j)) ∧ w.frozen? ⟨b, j, none⟩ = false := by
  have := h.at_ hj; rwa [Nat.zero_add] at this
theorem BoolS.set0 {b n c : Nat} (h : BoolS w lo hi (.slice (some ⟨b, 0, none⟩) n c) bs) {j : Nat} (hj : j < bs.length) (z : Bool) :
    BoolS (w.setCell ⟨b, j, none⟩ (.bool z)) lo hi (.slice (some ⟨b, 0, none⟩) n c) (bs.set j z) := by
  have := h.set hj z; rwa [Nat.zero_add] at this
theorem BoolS.opened {A : Option Addr} {n c : Nat} (h : BoolS w lo hi (.slice A n c) bs) {j : Nat} (hj : j < bs.length) : ∃ b off, A = some ⟨b, off, none⟩ ∧ lo ≤ b ∧ b < hi ∧ w.cell? ⟨b, off + j, none⟩ = some (.bool (nthB bs j)) ∧ w.frozen? ⟨b, off + j, none⟩ = false := by
  obtain ⟨A', c', e, h1, h2, h3⟩ := id h
  injection e with e1 e2 e3
  subst e1
  obtain ⟨b, off, e4, h4, h5, h6⟩ := h3 (by omega)
  exact ⟨b, off, e4, h4, h5, h6 j (by omega)⟩
theorem BoolS.of_row {b n : Nat} {t : TypeId} (h : w.rowIs b t n (fun j => .bool (nthB bs j))) (hn : bs.length = n) (hm : n ≤ maxLen) : BoolS w b (b + 1) (.slice (some ⟨b, 0, none⟩) n n) bs := by
  subst hn
  refine ⟨_, _, rfl, Nat.le_refl _, hm, fun hpos => ⟨b, 0, rfl, Nat.le_refl _, by omega, fun j hj => ?_⟩⟩
  rw [Nat.zero_add]
  exact ⟨h.cell (by omega), h.frozen j⟩
end
/-- rows just made -/
theorem made_ints (w : World) (n : Nat) (t : TypeId) {g : Nat} (hg : w.heap.size = g) (hn : n ≤ 1099511627776) : IntS (w.alloc (.cells (madeCells #[.int .i64 0] n) t)) g (g + 1) (.slice (some ⟨g, 0, none⟩) n n) (List.replicate n 0) := by
  subst hg
  exact IntS.of_row (t := t) ((World.rowIs_made w (.int .i64 0) n t).congr fun j hj => by rw [nth_replicate _ _ hj]) (by simp) (by unfold maxLen; omega)
theorem made_bools (w : World) (n : Nat) (t : TypeId) {g : Nat} (hg : w.heap.size = g) (hn : n ≤ 1099511627776) : BoolS (w.alloc (.cells (madeCells #[.bool false] n) t)) g (g + 1) (.slice (some ⟨g, 0, none⟩) n n) (List.replicate n false) := by
  subst hg
  exact BoolS.of_row (t := t) ((World.rowIs_made w (.bool false) n t).congr fun j hj => by rw [nthB_replicate _ _ hj]) (by simp) (by unfold maxLen; omega)

/-- the numbers 0 to n-1 in any order -/
def permAt (zs : List Int) (n : Nat) (k : Nat) : Bool := inB (nth zs k) 0 ((n : Int) - 1) && !decide (nth zs k ∈ zs.take k)
def permB (zs : List Int) (n : Nat) : Bool := (List.range zs.length).all (permAt zs n) && decide (zs.length = n)
theorem perm_at {zs : List Int} {n k : Nat} (h : permB zs n = true) (hk : k < zs.length) : ∃ t : Nat, nth zs k = t ∧ t < n ∧ nth zs k ∉ zs.take k := by
  unfold permB at h
  rw [Bool.and_eq_true] at h
  have := rangeAll_at h.1 hk
  unfold permAt at this
  rw [Bool.and_eq_true] at this
  obtain ⟨h1, h2⟩ := inB_le this.1
  exact ⟨(nth zs k).toNat, by omega, by omega, by simpa using this.2⟩
end Go.Proofs.Ytcmmklcampmkjaa

/- A made slice of slices whose rows the call owns and appends to. No condition on any program. -/
namespace Go.Proofs.Ytcmmklcampmkjaa
open Go.RowKit
set_option linter.unusedVariables false

/-- block b holds a slice of slices; each row is the call's own, no two rows share a block -/
def Gro (w : World) (b : Nat) (e : TypeId) (xss : List (List Int)) : Prop :=
  ∃ vs : Nat → Value, Sl w b (b + 1) 1 (.slice (some ⟨b, 0, none⟩) xss.length xss.length) xss.length vs ∧ b < w.heap.size ∧
    (∀ i, i < xss.length → OwnI w (b + 1) e (vs i) (nthL xss i)) ∧ ∀ i j, i < xss.length → j < xss.length → i ≠ j → Apart (vs i) (vs j)
theorem Own_rowOf {w : World} {base : Nat} {e : TypeId} {v : Value} {zs : List Int} (h : OwnI w base e v zs) : rowOf zs.length v = none ∨ (rowOf zs.length v = v.ownBlock ∧ ∃ g, v.ownBlock = some g ∧ base ≤ g ∧ g < w.heap.size) := by
  unfold rowOf
  by_cases hz : zs.length = 0
  · exact .inl (if_pos hz)
  · rw [if_neg hz]
    rcases h.block with h1 | h1
    · exact .inl h1
    · exact .inr ⟨rfl, h1⟩
section
variable {w w' : World} {b : Nat} {e : TypeId} {xss : List (List Int)} {row : Option Nat}
theorem Gro.far (h : Gro w b e xss) (hg : w.grownBy w' row) (hr : ∀ g, row = some g → g < b) : Gro w' b e xss := by
  obtain ⟨vs, h1, h2, h3, h4⟩ := h
  refine ⟨vs, Sl.keep h1 fun k a1 a2 => hg.block k (by omega) (fun e => by have := hr k e.symm; omega), Nat.lt_of_lt_of_le h2 hg.size, fun i hi => (h3 i hi).far hg fun g e => .inl (by have := hr g e; omega), h4⟩
theorem Gro.still (h : Gro w b e xss) (hg : w.grownBy w' none) : Gro w' b e xss := h.far hg fun g e => by cases e
theorem Gro.made (w : World) (n : Nat) (t e : TypeId) {g : Nat} (hg : w.heap.size = g) (hn : n ≤ 1099511627776) : Gro (w.alloc (.cells (madeCells #[.slice none 0 0] n) t)) g e (List.replicate n []) := by
  subst hg
  have hr := World.rowIs_made w (.slice none 0 0) n t
  refine ⟨fun _ => .slice none 0 0, ?_, by simp, fun i hi => ?_, fun i j _ _ _ => Apart.nil_left _⟩
  · rw [List.length_replicate]
    have := Sl.of_row (lo := w.heap.size) (sz := 1) (n := n) (c := n) hr (Nat.le_refl _) (by omega) (Nat.le_refl _) (by unfold maxLen; omega)
    exact this.mono (Nat.le_refl _) (by simp)
  · have : nthL (List.replicate n ([] : List Int)) i = [] := by
      unfold nthL
      rw [List.length_replicate] at hi
      simp [hi]
    rw [this]
    exact OwnI.nil _ _ _
/-- one row, and what an append onto it with the store behind it leaves -/
theorem Gro.open_ (h : Gro w b e xss) {i : Nat} (hi : i < xss.length) :
    ∃ u, w.cell? ⟨b, i, none⟩ = some u ∧ w.frozen? ⟨b, i, none⟩ = false ∧ OwnI w (b + 1) e u (nthL xss i) ∧ b < w.heap.size ∧
      ∀ v' w' zs', OwnI w' (b + 1) e v' zs' → w.grownBy w' u.ownBlock → (v'.ownBlock = u.ownBlock ∨ v'.ownBlock = some (w.heap.size + 1)) → Gro (w'.setCell ⟨b, i, none⟩ v') b e (xss.set i zs') := by
  obtain ⟨vs, h1, h2, h3, h4⟩ := h
  have hat := h1.at_ (j := i) (by omega)
  rw [Nat.zero_add] at hat
  refine ⟨vs i, hat.1, hat.2, h3 i hi, h2, fun v' w' zs' ho hg hb => ?_⟩
  have hub : ∀ g, (vs i).ownBlock = some g → b + 1 ≤ g := fun g e => ((h3 i hi).lt g e).1
  have hs := hg.size
  have h1' : Sl w' b (b + 1) 1 (.slice (some ⟨b, 0, none⟩) xss.length xss.length) xss.length vs := Sl.keep h1 fun k a1 a2 => hg.block k (by omega) (fun e => by have := hub k e.symm; omega)
  have hset := h1'.set (j := i) (by omega) v'
  rw [Nat.zero_add] at hset
  have hgs : w'.grownBy (w'.setCell ⟨b, i, none⟩ v') (some b) := grown_set w' ⟨b, i, none⟩ _
  refine ⟨fun j => if j = i then v' else vs j, ?_, by rw [size_setCell]; omega, fun j hj => ?_, fun j k hj hk hjk => ?_⟩
  · rw [List.length_set]; exact hset
  · rw [List.length_set] at hj
    rw [nthL_set hi]
    dsimp only
    by_cases ej : j = i
    · rw [if_pos ej, if_pos ej]
      exact ho.far hgs fun g e => .inl (by injection e; omega)
    · rw [if_neg ej, if_neg ej]
      exact ((h3 j hj).kept hg (h4 j i hj hi ej).keeps).far hgs fun g e => .inl (by injection e; omega)
  · rw [List.length_set] at hj hk
    dsimp only
    by_cases ej : j = i
    · rw [if_pos ej, if_neg (by omega)]
      subst ej
      exact (Apart.grow (h4 k j hk hi (fun e => hjk e.symm)) (h3 k hk) (g := w.heap.size + 1) (by omega) hb).symm
    · rw [if_neg ej]
      by_cases ek : k = i
      · rw [if_pos ek]
        subst ek
        exact Apart.grow (h4 j k hj hi ej) (h3 j hj) (g := w.heap.size + 1) (by omega) hb
      · rw [if_neg ek]; exact h4 j k hj hk hjk
theorem Gro.ssx (h : Gro w b e xss) : IntSSx w b w.heap.size (.slice (some ⟨b, 0, none⟩) xss.length xss.length) xss := by
  obtain ⟨vs, h1, h2, h3, h4⟩ := h
  refine ⟨vs, h1.mono (Nat.le_refl _) (by omega), fun i hi => (h3 i hi).ints.mono (by omega) (Nat.le_refl _), fun i j hij hj => ?_, fun i hi => ?_⟩
  · rcases Own_rowOf (h3 i (by omega)) with e1 | ⟨e1, g, e2, _⟩
    · exact .inl e1
    · rcases Own_rowOf (h3 j hj) with f1 | ⟨f1, _⟩
      · right; rw [e1, e2, f1]; simp
      · rw [e1, f1]
        exact (h4 i j (by omega) hj (by omega)).keeps
  · rcases Own_rowOf (h3 i hi) with e1 | ⟨e1, g, e2, a1, a2⟩
    · exact .inl e1
    · right
      rw [e1, e2, rowOf_some (by omega)]
      intro e3; injection e3; omega
end

end Go.Proofs.Ytcmmklcampmkjaa

/- Contracts of slices.IndexFunc and slices.ContainsFunc at edges, ends and rows; a function value's contract is asked at each place. -/
namespace Go.Proofs.Ytcmmklcampmkjaa
open Go.ChangeShapes Go.WideShapes Go.ChangeAt Go.RowKit
set_option linter.unusedVariables false

/-- the first number below n that a predicate takes, or -1 -/
def fidxN (p : Nat → Bool) (n : Nat) : Int := if (List.range n).any p then ((List.range n).findIdx p : Int) else -1
end Go.Proofs.Ytcmmklcampmkjaa

/- Contracts: the edges of a network (program and reference), stubs, and that a network has none. -/
namespace Go.Proofs.Ytcmmklcampmkjaa
open Go.ChangeShapes Go.WideShapes Go.ChangeAt Go.RowKit
set_option linter.unusedVariables false

theorem Try.infoRow : (Try.prog.info? 23).map (fun i => (i.zero, i.size, i.bytes)) = some (some (.slice none 0 0), 1, 24) := by kernel_rfl
end Go.Proofs.Ytcmmklcampmkjaa

/- Contracts: clusterings (program and reference). -/
namespace Go.Proofs.Ytcmmklcampmkjaa
open Go.ChangeShapes Go.WideShapes Go.ChangeAt Go.RowKit
set_option linter.unusedVariables false

/-- the numbers below m whose image is c -/
def fibL (l : List Int) (c m : Nat) : List Int := ((List.range m).filter fun v => decide (nth l v = (c : Int))).map fun (v : Nat) => (v : Int)
def fibsAt (l : List Int) (k m : Nat) : List (List Int) := (List.range k).map fun c => fibL l c m
theorem fibsAt_length (l : List Int) (k m : Nat) : (fibsAt l k m).length = k := by simp [fibsAt]
theorem nthL_fibsAt {l : List Int} {k m c : Nat} (hc : c < k) : nthL (fibsAt l k m) c = fibL l c m := by simp [nthL, fibsAt, hc]
theorem fibL_len (l : List Int) (c m : Nat) : (fibL l c m).length ≤ m := by
  unfold fibL; rw [List.length_map]; exact Nat.le_trans (List.length_filter_le _ _) (by simp)
theorem fibL_yes {l : List Int} {c m : Nat} (h : nth l m = c) : fibL l c (m + 1) = fibL l c m ++ [(m : Int)] := by simp [fibL, List.range_succ, h]
theorem fibL_no {l : List Int} {c m : Nat} (h : nth l m ≠ c) : fibL l c (m + 1) = fibL l c m := by simp [fibL, List.range_succ, h]
theorem fibsAt_succ {l : List Int} {k m t : Nat} (h : nth l m = t) (ht : t < k) : fibsAt l k (m + 1) = (fibsAt l k m).set t (nthL (fibsAt l k m) t ++ [(m : Int)]) := by
  apply ext_nthL (by simp [fibsAt])
  intro i hi
  rw [fibsAt_length] at hi
  rw [nthL_set (by rw [fibsAt_length]; exact ht), nthL_fibsAt hi, nthL_fibsAt ht]
  by_cases e : i = t
  · subst e; rw [if_pos rfl, fibL_yes h]
  · rw [if_neg e, nthL_fibsAt hi, fibL_no (by rw [h]; omega)]
theorem fibsAt_zero (l : List Int) (k : Nat) : fibsAt l k 0 = List.replicate k [] := by
  apply ext_nthL (by simp [fibsAt])
  intro i hi
  rw [fibsAt_length] at hi
  rw [nthL_fibsAt hi]
  simp [nthL, hi, fibL]
theorem mem_fibL {l : List Int} {c m : Nat} {x : Int} : x ∈ fibL l c m ↔ ∃ v : Nat, v < m ∧ nth l v = c ∧ x = v := by
  simp only [fibL, List.mem_map, List.mem_filter, List.mem_range, decide_eq_true_eq]
  constructor
  · rintro ⟨v, ⟨a, b⟩, e⟩; exact ⟨v, a, b, e.symm⟩
  · rintro ⟨v, a, b, e⟩; exact ⟨v, ⟨a, b⟩, e.symm⟩
end Go.Proofs.Ytcmmklcampmkjaa

/- Contracts: numbers for all ports; orientations (program and reference). -/
namespace Go.Proofs.Ytcmmklcampmkjaa
open Go.ChangeShapes Go.WideShapes Go.ChangeAt Go.RowKit
set_option linter.unusedVariables false

def rowIn (o : List (List Int)) (lo hi : Int) (v : Nat) : Bool := (nthL o v).all fun x => inB x lo hi
end Go.Proofs.Ytcmmklcampmkjaa

/- Contracts of small functions: numbers in order, lists of -1, the numbers of neighbours, ports with a number. -/
namespace Go.Proofs.Ytcmmklcampmkjaa
open Go.ChangeShapes Go.WideShapes Go.ChangeAt Go.RowKit
set_option linter.unusedVariables false

def upTo (n : Nat) : List Int := (List.range n).map fun (k : Nat) => (k : Int)
theorem upTo_length (n : Nat) : (upTo n).length = n := by simp [upTo]
theorem nth_upTo {n k : Nat} (h : k < n) : nth (upTo n) k = k := by simp [nth, upTo, h]
theorem set_fold {n k : Nat} {f : Nat → Int} {zs : List Int} (hl : zs.length = n) (hk : k < n) (h : ∀ j, j < n → nth zs j = if j < k then f j else 0) : ∀ j, j < n → nth (zs.set k (f k)) j = if j < k + 1 then f j else 0 := fun j hj => by
  rw [nth_set _ _ _ _ (by omega)]
  by_cases e : j = k
  · rw [if_pos e, if_pos (by omega), e]
  · rw [if_neg e, h j hj]
    by_cases e2 : j < k
    · rw [if_pos e2, if_pos (by omega)]
    · rw [if_neg e2, if_neg (by omega)]
/-- the numbers that a list gives to the neighbours -/
def nears (N : NetD) (v : Nat) (l : List Int) : List Int := (nbs N v).map fun x => nth l x.toNat
theorem nears_length (N : NetD) (v : Nat) (l : List Int) : (nears N v l).length = (nthL N.ends v).length := by simp [nears, nbs_length]
theorem nth_nears {N : NetD} {v i : Nat} (l : List Int) (h : i < (nthL N.ends v).length) : nth (nears N v l) i = nth l (nthE (nthL N.ends v) i).1.toNat := by
  rw [← nth_nbs N v h]
  simp [nth, nears, nbs_length, h]
def cntI (c : Int) (zs : List Int) : Nat := (zs.filter fun x => x == c).length
theorem cntI_le (c : Int) (zs : List Int) : cntI c zs ≤ zs.length := List.length_filter_le _ _
theorem cntI_take {c : Int} {zs : List Int} {k : Nat} (h : k < zs.length) : cntI c (zs.take (k + 1)) = cntI c (zs.take k) + if nth zs k = c then 1 else 0 := by
  unfold cntI
  rw [List.take_succ_eq_append_getElem h, List.filter_append, List.length_append, nth_eq h]
  by_cases e : zs[k] = c <;> simp [e]
def portsC (N : NetD) (v : Nat) (l : List Int) (c : Int) : Nat := cntI c (nears N v l)
theorem portsC_le (N : NetD) (v : Nat) (l : List Int) (c : Int) : portsC N v l c ≤ (nthL N.ends v).length := by have := cntI_le c (nears N v l); rw [nears_length] at this; exact this

set_option maxHeartbeats 4000000 in
set_option maxRecDepth 100000 in
theorem numbersTo_any (n : Nat) (w : World)  (hn : n ≤ 1048576) :
    Calls Try.prog 32 #[.int .i64 (n : Nat)] w fun e w' => ∃ r, e = .returned (r) ∧ IntS w' w.heap.size w'.heap.size r (upTo n) ∧ Below w.heap.size w w' := by
  have hmk := fun W => run_make_row' (P := Try.prog) 23 3 (.int .i64 0) 8 Try.underlying23 Try.info3 rfl .i64 .i64 n (by omega) (by omega) W
  go_enter Try.func32, Try.ntmps32
  go_wp2_with fail
  refine nameC ?_
  intro W1 HW1
  have hg1 : w.grownBy W1 none := by rw [HW1.out]; exact grown_alloc _ _
  have hs1 := hg1.size
  have HF1 := Lib.hid ((Turned.refl w.heap.size w.heap.size w).still hg1)
  have HO := Lib.hid (show IntS W1 w.heap.size (w.heap.size + 1) (.slice (some ⟨w.heap.size, 0, none⟩) n n) (List.replicate n 0) by rw [HW1.out]; exact made_ints _ _ _ rfl (by omega))
  have hz : w.heap.size + 1 ≤ W1.heap.size := by rw [HW1.out]; simp
  clear HW1 hmk
  go_loopw [9] (fun i wr => ∃ (k : Nat) (zs : List Int), k ≤ n ∧ i = .int .i64 k ∧ Hid (IntS wr w.heap.size (w.heap.size + 1) (.slice (some ⟨w.heap.size, 0, none⟩) n n) zs) ∧ Hid (zs.length = n) ∧ Hid (∀ j, j < n → nth zs j = if j < k then (fun j => (j : Int)) j else 0) ∧ w.heap.size + 1 ≤ wr.heap.size ∧ Hid (Turned w.heap.size w.heap.size w wr)) (fun i _ => n - (intOf i).toNat)
  case atStart => exact ⟨0, List.replicate n 0, Nat.zero_le _, rfl, HO, Lib.hid (by simp), Lib.hid fun j hj => by rw [nth_replicate _ _ hj]; simp, hz, HF1⟩
  case round =>
    clear HF1
    obtain ⟨k, zs, hk, rfl, HO, HL, HZ, hz, HF2⟩ := hrel
    have hs2 := HF2.out.size
    by_cases hlt : k < n
    case neg =>
      obtain rfl : k = n := by omega
      go_wp2_with fail
      go_ret
      refine ⟨_, rfl, ?_, (HF2.out.below_of (Below.refl _ _) (by omega) (by omega))⟩
      have e : upTo k = zs := ext_nth (by rw [HL.out]; simp [upTo]) fun j hj => by
        have hj' : j < k := by simpa [upTo] using hj
        rw [HZ.out j hj', if_pos hj']
        first | exact nth_upTo hj' | exact nth_replicate _ _ hj'
      rw [e]
      exact HO.out.mono (Nat.le_refl _) hz
    obtain ⟨x1, x2⟩ := HO.out.at0 (j := k) (by rw [HL.out]; exact hlt)
    have hs := HO.out.set0 (j := k) (by rw [HL.out]; exact hlt) ((fun j => (j : Int)) k)
    have HS := Lib.hid hs; clear hs
    obtain ⟨y, HY⟩ : ∃ y, Hid (nth zs k = y) := ⟨_, Lib.hid rfl⟩
    rw [HY.out] at x1
    go_wp2_with fail
    go_roundw
    case rel => exact ⟨k + 1, _, by omega, by go_num, HS, Lib.hid (by rw [List.length_set]; exact HL.out), Lib.hid (set_fold HL.out hlt HZ.out), by rw [size_setCell]; exact hz, Lib.hid (HF2.out.grown (grown_set _ ⟨w.heap.size, k, none⟩ _) fun g hg => .inr (by cases hg; exact Nat.le_refl _))⟩
    case measure => simp [intOf]; omega

end Go.Proofs.Ytcmmklcampmkjaa
