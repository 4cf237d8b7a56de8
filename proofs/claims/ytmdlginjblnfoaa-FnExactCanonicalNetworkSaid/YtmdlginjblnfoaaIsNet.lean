/-
  Contract of the program's IsNetwork.
-/
import Derived.Test.YtmdlginjblnfoaaGood
import Derived.Test.YtmdlginjblnfoaaExt
namespace Go.Proofs.Ytmdlginjblnfoaa
open Go.ChangeShapes Go.WideShapes Go.ChangeAt Go.RowKit
set_option linter.unusedVariables false

theorem hasPort_is (v : Value) (N : NetD) (x i : Int) (b : Bool) (hb : N.port x i = b) (lo hi : Nat) (w : World) (h : Net w lo hi v N) (hhi : hi ≤ w.heap.size) :
    Calls Try.prog 39 #[v, .int .i64 x, .int .i64 i] w fun e w' => e = .returned (.bool b) ∧ Below w.heap.size w w' := by
  rw [← hb]; exact hasPort_any v N x i lo hi w h hhi

set_option maxHeartbeats 4000000 in
set_option maxRecDepth 100000 in
theorem IsNetwork_any (v : Value) (N : NetD) (lo hi : Nat) (w : World) (h : Net w lo hi v N) (hhi : hi ≤ w.heap.size) (hsz : N.sz ≤ 1048576) :
    Calls Try.prog 23 #[v] w fun e w' => e = .returned (.bool N.good) ∧ Below w.heap.size w w' := by
  unfold NetD.sz at hsz
  have HNET := Lib.hid h
  obtain ⟨ve, vi, vn, rfl, he, hi1, hn1⟩ := h
  obtain ⟨A, c, rfl, hc1, hc2, hcell⟩ := he.form
  unfold maxLen at hc2
  have hle : N.ends.length ≤ 1048576 := by unfold szSS at hsz; omega
  obtain ⟨A2, c2, rfl⟩ := hi1.shape
  obtain ⟨A3, c3, rfl⟩ := hn1.shape
  have HI0 := Lib.hid hi1
  have HN0 := Lib.hid hn1
  obtain ⟨W0, HW0⟩ : ∃ W0, Hid (W0 = w.alloc (.cells #[.slice A N.ends.length c, .slice A2 N.ids.length c2, .slice A3 N.inputs.length c3] 31)) := ⟨_, Lib.hid rfl⟩
  have b0 : Box3 W0 w.heap.size 31 (.slice A N.ends.length c) (.slice A2 N.ids.length c2) (.slice A3 N.inputs.length c3) := by rw [HW0.out]; exact Box3.new w 31 _ _ _
  have hb0 : Below w.heap.size w W0 := by rw [HW0.out]; exact below_a1 _ _
  have hs0 : w.heap.size + 1 ≤ W0.heap.size := by rw [HW0.out]; simp
  clear he hi1 hn1
  by_cases g1 : inB N.ends.length 1 40 = true
  case neg =>
    have g1' : inB N.ends.length 1 40 = false := by simpa using g1
    clear g1 hcell b0
    go_enter Try.func23, Try.ntmps23
    go_wp2_with (go_at_call 36; refine (within_any _ _ _ _).mono ?_; rintro e w' ⟨rfl, rfl⟩)
    go_ret
    exact ⟨ret_bool (good_head (by unfold NetD.headOk; rw [g1']; rfl)).symm, below_a1 _ _⟩
  obtain ⟨n1, n40⟩ := inB_le g1
  obtain ⟨b, off, rfl, hb1, hb2, hcs⟩ := hcell (by omega)
  have HCS := Lib.hid hcs
  clear hcell hcs
  go_enter Try.func23, Try.ntmps23
  go_wp2_with (go_at_call 36; refine (within_any _ _ _ _).mono ?_; rintro e w' ⟨rfl, rfl⟩)
  rw [← HW0.out]
  clear HW0
  refine (idsOk_any _ N.ids _ lo hi _ (HI0.out.below hb0 hhi) (by omega) (by omega)).mono ?_
  rintro e w1 ⟨rfl, hb1'⟩
  have hs1 := hb1'.size
  have b1 := b0.below hb1' (by omega)
  have hw1 := hb0.trans (hb1'.mono (by omega))
  clear b0 hb0 hb1'
  by_cases g2 : idsGood N.ids N.ends.length = true
  case neg =>
    have g2' : idsGood N.ids N.ends.length = false := by simpa using g2
    rw [g2']
    go_wp2_with fail
    go_ret
    exact ⟨ret_bool (good_head (by unfold NetD.headOk; rw [g2']; simp)).symm, hw1⟩
  rw [g2]
  obtain ⟨c1', c2', c3'⟩ := b1.cells
  go_wp2_with fail
  clear c1' c2' c3'
  refine (inputsOk_any _ N.inputs _ lo hi _ (HN0.out.below hw1 hhi) (by omega)).mono ?_
  rintro e w2 ⟨rfl, hb2'⟩
  have hs2 := hb2'.size
  have b2 := b1.below hb2' (by omega)
  have hw2 := hw1.trans (hb2'.mono (by omega))
  clear b1 hw1 hb2'
  by_cases g3 : insGood N.inputs N.ends.length = true
  case neg =>
    have g3' : insGood N.inputs N.ends.length = false := by simpa using g3
    rw [g3']
    go_wp2_with fail
    go_ret
    exact ⟨ret_bool (good_head (by unfold NetD.headOk; rw [g3']; simp)).symm, hw2⟩
  rw [g3]
  have HD := Lib.hid (show N.headOk = true by unfold NetD.headOk; rw [g1, g2, g3]; rfl)
  have d1' := b2.cells.1
  go_wp2_with fail
  clear d1'
  go_loopw [33] (fun i wr => ∃ k : Nat, k ≤ N.ends.length ∧ i = .int .i64 k ∧ Hid (∀ j, j < k → N.rowOk j = true) ∧ Box3 wr w.heap.size 31 (.slice (some ⟨b, off, none⟩) N.ends.length c) (.slice A2 N.ids.length c2) (.slice A3 N.inputs.length c3) ∧ Below w.heap.size w wr) (fun i _ => N.ends.length - (intOf i).toNat)
  case atStart => exact ⟨0, Nat.zero_le _, rfl, Lib.hid fun j hj => absurd hj (by omega), b2, hw2⟩
  case round =>
    clear b2 hw2
    obtain ⟨k, hk, rfl, HU, hbx, hb⟩ := hrel
    have hs0 := hb.size
    by_cases hlt : k < N.ends.length
    case neg =>
      obtain rfl : k = N.ends.length := by omega
      go_wp2
      go_ret
      exact ⟨ret_bool (good_yes HD.out HU.out).symm, hb⟩
    obtain ⟨u, hu, hR⟩ := HCS.out k hlt
    obtain ⟨A4, c4, rfl, hd1, hd2, hcell4⟩ := hR.form
    unfold maxLen at hd2
    have hck := (hb.cell (p := ⟨b, off + k, none⟩) (by show b < _; omega)).trans hu
    have HC4 := Lib.hid hcell4
    clear hu hcell4 hR
    by_cases hl6 : (nthL N.ends k).length ≤ 6
    case neg =>
      have hl6' : (6 : Int) < (nthL N.ends k).length := by omega
      go_wp2
      go_ret
      exact ⟨ret_bool (good_row hlt (row_wide (by omega))).symm, hb⟩
    obtain ⟨wo, rfl⟩ : ∃ wo : World, wo = wr := ⟨_, rfl⟩
    go_wp2
    go_loopw [43] (fun i wi => ∃ m : Nat, m ≤ (nthL N.ends k).length ∧ i = .int .i64 m ∧ Hid (∀ j, j < m → N.endOk k j = true) ∧ Box3 wi w.heap.size 31 (.slice (some ⟨b, off, none⟩) N.ends.length c) (.slice A2 N.ids.length c2) (.slice A3 N.inputs.length c3) ∧ Below w.heap.size w wi) (fun i _ => (nthL N.ends k).length - (intOf i).toNat)
    case atStart => exact ⟨0, Nat.zero_le _, rfl, Lib.hid fun j hj => absurd hj (by omega), hbx, hb⟩
    case round =>
      clear hbx hb hck
      obtain ⟨m, hm, rfl, HV, hbx, hb⟩ := hrel
      have hs1 := hb.size
      by_cases hml : m < (nthL N.ends k).length
      case neg =>
        obtain rfl : m = (nthL N.ends k).length := by omega
        go_wp2
        go_roundw
        case rel =>
          refine ⟨k + 1, by omega, by go_num, Lib.hid fun j hj => ?_, hbx, hb⟩
          by_cases e : j = k
          · subst e; exact row_yes hl6 HV.out
          · exact HU.out j (by omega)
        case measure => simp [intOf]; omega
      obtain ⟨b4, off4, rfl, hb5, hb6, hcs4⟩ := HC4.out (by omega)
      obtain ⟨x1, x2⟩ := hcs4 m hml
      have e1 := (hb.cell (p := ⟨b4, off4 + m * 2, none⟩) (by show b4 < _; omega)).trans x1
      have e2 := (hb.cell (p := ⟨b4, off4 + m * 2 + 1, none⟩) (by show b4 < _; omega)).trans x2
      clear hcs4 x1 x2
      obtain ⟨p1, p2, HP⟩ : ∃ p1 p2, Hid (nthE (nthL N.ends k) m = (p1, p2)) := ⟨_, _, Lib.hid rfl⟩
      rw [HP.out] at e1 e2
      dsimp only at e1 e2
      obtain ⟨W, HW⟩ : ∃ W, Hid (W = wr.alloc (.cells #[.int .i64 p1, .int .i64 p2] 56)) := ⟨_, Lib.hid rfl⟩
      have hbW : Below w.heap.size w W := by rw [HW.out]; exact hb.alloc hs1 _
      have hbxW : Box3 W w.heap.size 31 (.slice (some ⟨b, off, none⟩) N.ends.length c) (.slice A2 N.ids.length c2) (.slice A3 N.inputs.length c3) := by rw [HW.out]; exact hbx.alloc _
      have hsW : W.heap.size = wr.heap.size + 1 := by rw [HW.out]; simp
      have o0 : W.cell? ⟨wr.heap.size, 0, none⟩ = some (.int .i64 p1) := by rw [HW.out, World.cell?_alloc_at _ _ _ _ rfl]; rfl
      have o1 : W.cell? ⟨wr.heap.size, 1, none⟩ = some (.int .i64 p2) := by rw [HW.out, World.cell?_alloc_at _ _ _ _ rfl]; rfl
      have NW := Lib.hid (HNET.out.below hbW hhi)
      have hsW' : w.heap.size + 1 ≤ W.heap.size := by have := hbx.lt; omega
      have r0 := ext_cell W (a := ⟨w.heap.size, 0, none⟩) (by show w.heap.size < W.heap.size; omega) hbxW.cells.1
      have r1 := ext_cell W (a := ⟨w.heap.size, 1, none⟩) (by show w.heap.size < W.heap.size; omega) hbxW.cells.2.1
      have r2 := ext_cell W (a := ⟨w.heap.size, 2, none⟩) (by show w.heap.size < W.heap.size; omega) hbxW.cells.2.2
      have r3 := ext_cell W (a := ⟨wr.heap.size, 0, none⟩) (by show wr.heap.size < W.heap.size; omega) o0
      have r4 := ext_cell W (a := ⟨wr.heap.size, 1, none⟩) (by show wr.heap.size < W.heap.size; omega) o1
      have HSW := Lib.hid hsW
      clear hsW o0 o1
      by_cases k1 : N.port p1 p2 = true
      case neg =>
        have k1' : N.port p1 p2 = false := by simpa using k1
        have K1 := Lib.hid k1'
        clear k1 k1'
        go_wp2
        rw [← HW.out]
        refine wp_region_ext (by kernel_rfl) (by kernel_rfl) ?_
        repeat (go_big_quiet_step ((go_at_call 39; exact ext_call (hasPort_is _ N _ _ false K1.out lo hi _ (NW.out.below (ext_below _ _) (by omega)) (Nat.le_trans (by omega) (ext_size _ _))))))
        refine wpQuiet_nil ?_
        intro _ hw'
        obtain ⟨px, hw''⟩ := hw'
        subst hw''
        go_wp2
        go_ret
        exact ⟨ret_bool (good_row hlt (row_end hml (by unfold NetD.endOk; rw [HP.out]; dsimp only; rw [K1.out]; rfl))).symm, hbW.trans ((ext_below _ _).mono (by omega))⟩
      have K1 := Lib.hid k1
      unfold NetD.port at k1
      rw [Bool.and_eq_true] at k1
      obtain ⟨k1a, k1b⟩ := k1
      obtain ⟨y1, y2⟩ := inB_le k1a
      obtain ⟨t, rfl⟩ : ∃ t : Nat, p1 = t := ⟨p1.toNat, by omega⟩
      rw [Int.toNat_natCast] at k1b
      obtain ⟨z1, z2⟩ := inB_le k1b
      obtain ⟨r, rfl⟩ : ∃ r : Nat, p2 = r := ⟨p2.toNat, by omega⟩
      have htl : t < N.ends.length := by omega
      obtain ⟨u5, hu5, hR5⟩ := HCS.out t htl
      obtain ⟨A5, c5, rfl, hf1, hf2, hcell5⟩ := hR5.form
      unfold maxLen at hf2
      have hrl : r < (nthL N.ends t).length := by omega
      have hti : (t : Int) < N.ends.length := by omega
      have hri : (r : Int) < (nthL N.ends t).length := by omega
      obtain ⟨b6, off6, rfl, hb7, hb8, hcs6⟩ := hcell5 (by omega)
      obtain ⟨f1, f2⟩ := hcs6 r hrl
      have q5 := ext_cell W (a := ⟨b, off + t, none⟩) (by show b < W.heap.size; omega) ((hbW.cell (p := ⟨b, off + t, none⟩) (by show b < _; omega)).trans hu5)
      have d1 := ext_cell W (a := ⟨b6, off6 + r * 2, none⟩) (by show b6 < W.heap.size; omega) ((hbW.cell (p := ⟨b6, off6 + r * 2, none⟩) (by show b6 < _; omega)).trans f1)
      have d2 := ext_cell W (a := ⟨b6, off6 + r * 2 + 1, none⟩) (by show b6 < W.heap.size; omega) ((hbW.cell (p := ⟨b6, off6 + r * 2 + 1, none⟩) (by show b6 < _; omega)).trans f2)
      obtain ⟨s1, s2, HQ⟩ : ∃ s1 s2, Hid (nthE (nthL N.ends t) r = (s1, s2)) := ⟨_, _, Lib.hid rfl⟩
      rw [HQ.out] at d1 d2
      dsimp only at d1 d2
      clear f1 f2 hcs6 hcell5 hu5 hR5 k1a k1b
      by_cases k3 : ((s1, s2) : Int × Int) = ((k : Int), (m : Int))
      case neg =>
        have k3' : ∀ w, (binOp .neq 56 (.agg #[.int .i64 s1, .int .i64 s2]) (.agg #[.int .i64 k, .int .i64 m])).run Try.prog w = .ok (.bool true) w := fun w => by
          rw [neq_end, show (!(s1 == (k : Int) && s2 == (m : Int))) = true by
            rw [Bool.not_eq_true', Bool.and_eq_false_iff]; simp only [Prod.mk.injEq] at k3; by_cases q : s1 = (k : Int)
            · right; simpa using fun e => k3 ⟨q, e⟩
            · left; simpa using q]
        have K3 := Lib.hid k3
        clear k3
        go_wp2
        rw [← HW.out]
        refine wp_region_ext (by kernel_rfl) (by kernel_rfl) ?_
        repeat (go_big_quiet_step ((go_at_call 39; exact ext_call (hasPort_is _ N _ _ true K1.out lo hi _ (NW.out.below (ext_below _ _) (by omega)) (Nat.le_trans (by omega) (ext_size _ _))))))
        refine wpQuiet_nil ?_
        intro _ hw'
        obtain ⟨px, hw''⟩ := hw'
        subst hw''
        go_wp2
        go_ret
        exact ⟨ret_bool (good_row hlt (row_end hml (by unfold NetD.endOk; rw [HP.out]; dsimp only; rw [Int.toNat_natCast, Int.toNat_natCast, HQ.out, decide_eq_false K3.out, Bool.and_false]))).symm, hbW.trans ((ext_below _ _).mono (by omega))⟩
      have k3' : ∀ w, (binOp .neq 56 (.agg #[.int .i64 s1, .int .i64 s2]) (.agg #[.int .i64 k, .int .i64 m])).run Try.prog w = .ok (.bool false) w := fun w => by
        simp only [Prod.mk.injEq] at k3
        rw [neq_end, k3.1, k3.2]; simp
      have K3 := Lib.hid k3
      clear k3
      go_wp2
      rw [← HW.out]
      refine wp_region_ext (by kernel_rfl) (by kernel_rfl) ?_
      repeat (go_big_quiet_step ((go_at_call 39; exact ext_call (hasPort_is _ N _ _ true K1.out lo hi _ (NW.out.below (ext_below _ _) (by omega)) (Nat.le_trans (by omega) (ext_size _ _))))))
      refine wpQuiet_nil ?_
      intro _ hw'
      obtain ⟨px, hw''⟩ := hw'
      subst hw''
      go_wp2
      go_roundw
      case rel =>
        refine ⟨m + 1, by omega, by go_num, Lib.hid fun j hj => ?_, hbxW.below (ext_below _ _) (by omega), hbW.trans ((ext_below _ _).mono (by omega))⟩
        by_cases e : j = m
        · subst e
          unfold NetD.endOk
          rw [HP.out]
          dsimp only
          rw [Int.toNat_natCast, Int.toNat_natCast, HQ.out, decide_eq_true K3.out, Bool.and_true]
          exact K1.out
        · exact HV.out j (by omega)
      case measure => simp [intOf]; omega

end Go.Proofs.Ytmdlginjblnfoaa
