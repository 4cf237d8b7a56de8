/-
  Contracts: layers of nodes, and the least number for which all nodes get one (program and reference).
-/
import Derived.Test.YtapfighdnfmdcaaPeelP
import Derived.Test.YtapfighdnfmdcaaNearP
import Derived.Test.YtapfighdnfmdcaaGood
namespace Go.Proofs.Ytapfighdnfmdcaa
open Go.ChangeShapes Go.WideShapes Go.ChangeAt Go.RowKit
set_option linter.unusedVariables false

theorem equal_any (v1 v2 : Value) (xs ys : List Int) (lo1 hi1 lo2 hi2 : Nat) (w : World) (h1 : IntS w lo1 hi1 v1 xs) (h2 : IntS w lo2 hi2 v2 ys) :
    Calls Try.prog 134 #[v1, v2] w fun e w' => e = .returned (.bool (eqI xs ys)) ∧ Below w.heap.size w w' := by
  obtain ⟨A, c, rfl, hc1, hc2, hcell⟩ := h1.form
  obtain ⟨A2, c2, rfl, hd1, hd2, hcell2⟩ := h2.form
  unfold maxLen at hc2 hd2
  by_cases hl : xs.length = ys.length
  case neg =>
    refine (Try.slices_Equal_int_lens _ _ _ _ _ _ _ hl).mono ?_
    rintro e w' ⟨rfl, rfl⟩
    exact ⟨ret_bool (by unfold eqI; symm; rw [decide_eq_false_iff_not]; rintro rfl; exact hl rfl), Below.refl _ _⟩
  rcases Nat.eq_zero_or_pos xs.length with h0 | h0
  · rw [h0]
    refine (Try.slices_Equal_int_empty _ _ _ _ _ _ (by omega)).mono ?_
    rintro e w' ⟨rfl, rfl⟩
    have e1 : xs = [] := List.eq_nil_of_length_eq_zero h0
    have e2 : ys = [] := List.eq_nil_of_length_eq_zero (by omega)
    subst e1 e2
    exact ⟨rfl, Below.refl _ _⟩
  · obtain ⟨b, off, rfl, _, _, hcs⟩ := hcell h0
    obtain ⟨b2, off2, rfl, _, _, hcs2⟩ := hcell2 (by omega)
    refine (Try.slices_Equal_int b off xs.length c b2 off2 ys.length c2 xs ys w (Nat.le_refl _) (Nat.le_refl _) (by omega) (by omega) (fun j hj => (hcs j hj).1) (fun j hj => (hcs2 j hj).1)).mono ?_
    rintro e w' ⟨rfl, q, rfl⟩
    refine ⟨ret_bool ?_, below_drewN (Below.refl _ _) _⟩
    rw [List.take_length, List.take_length]
    unfold eqI
    rw [Bool.eq_iff_iff]; simp
def peelLay (N : NetD) (a : Int) : List Int := if peelOk N a = true then peelAll N a else []
/-- the layers while a round runs: the nodes before m have been looked at -/
def peelMid (N : NetD) (a : Int) (k : Nat) (l : List Int) (m : Nat) (l2 : List Int) : Prop := l2.length = N.ends.length ∧ ∀ j, j < N.ends.length → nth l2 j = if j < m ∧ peelAt N a l j = true then (k : Int) else nth l j
theorem peelMid.zero {N : NetD} {a : Int} {k : Nat} {l : List Int} (h : l.length = N.ends.length) : peelMid N a k l 0 l := ⟨h, fun j hj => by rw [if_neg (by omega)]⟩
theorem peelMid.yes {N : NetD} {a : Int} {k : Nat} {l : List Int} {m : Nat} {l2 : List Int} (h : peelMid N a k l m l2) (hm : m < N.ends.length) (hp : peelAt N a l m = true) : peelMid N a k l (m + 1) (l2.set m k) := by
  refine ⟨by rw [List.length_set]; exact h.1, fun j hj => ?_⟩
  rw [nth_set _ _ _ _ (by rw [h.1]; exact hm)]
  by_cases e : j = m
  · rw [if_pos e, if_pos ⟨by omega, by rw [e]; exact hp⟩]
  · rw [if_neg e, h.2 j hj]
    by_cases c : j < m ∧ peelAt N a l j = true
    · rw [if_pos c, if_pos ⟨by omega, c.2⟩]
    · rw [if_neg c, if_neg (fun h => c ⟨by omega, h.2⟩)]
theorem peelMid.no {N : NetD} {a : Int} {k : Nat} {l : List Int} {m : Nat} {l2 : List Int} (h : peelMid N a k l m l2) (hp : peelAt N a l m = false) : peelMid N a k l (m + 1) l2 := by
  refine ⟨h.1, fun j hj => ?_⟩
  rw [h.2 j hj]
  by_cases c : j < m ∧ peelAt N a l j = true
  · rw [if_pos c, if_pos ⟨by omega, c.2⟩]
  · rw [if_neg c, if_neg (fun h => c ⟨by have : j ≠ m := by { rintro rfl; rw [hp] at h; cases h.2 }; omega, h.2⟩)]
theorem peelMid.done {N : NetD} {a : Int} {k : Nat} {l l2 : List Int} (h : peelMid N a k l N.ends.length l2) : l2 = peelStep N a k l := by
  apply ext_nth (by rw [h.1, peelStep_length])
  intro j hj
  rw [h.1] at hj
  rw [h.2 j hj, nth_peelStep hj]
  by_cases c : peelAt N a l j = true
  · rw [if_pos ⟨hj, c⟩, if_pos c]
  · rw [if_neg (fun h => c h.2), if_neg c]
theorem step_same {N : NetD} {a : Int} {k : Nat} {l : List Int} (h : PInv N k l) : eqI (peelStep N a k l) l = !anyPeel N a l := by
  unfold eqI
  cases ha : anyPeel N a l with
  | false =>
    rw [Bool.not_false, decide_eq_true_eq]
    apply ext_nth (by rw [peelStep_length, h.len])
    intro j hj
    rw [peelStep_length] at hj
    rw [nth_peelStep hj, if_neg (by rw [anyPeel_no ha hj]; simp)]
  | true =>
    rw [Bool.not_true, decide_eq_false_iff_not]
    intro e
    obtain ⟨v, hv, h1⟩ := anyPeel_at ha
    have := nth_peelStep (N := N) (a := a) (k := k) (l := l) hv
    rw [e, if_pos h1] at this
    unfold peelAt at h1; rw [Bool.and_eq_true] at h1
    have h2 : nth l v < 0 := by simpa using h1.1
    omega
theorem PInv.k_le {N : NetD} {k : Nat} {l : List Int} (h : PInv N k l) : k ≤ N.ends.length := by have := h.left; omega
theorem ret_ivb' {x y : Int} {c d : Bool} (h : x = y) (h2 : c = d) : Ending.returned (.tuple #[.int .i64 x, .bool c]) = .returned (.tuple #[.int .i64 y, .bool d]) := by rw [h, h2]

set_option maxHeartbeats 4000000 in
set_option maxRecDepth 100000 in
theorem peelLayers_any (v1 : Value) (N : NetD) (lo1 hi1 : Nat) (a : Int) (w : World) (h1 : Net w lo1 hi1 v1 N) (hh1 : hi1 ≤ w.heap.size) (hg : N.good = true) :
    Calls Try.prog 82 #[v1, .int .i64 a] w fun e w' => ∃ r, e = .returned (.tuple #[r, .bool (peelOk N a)]) ∧ IntS w' w.heap.size w'.heap.size r (peelLay N a) ∧ Below w.heap.size w w' := by
  obtain ⟨n1, n40⟩ := good_n hg
  have HG := Lib.hid hg; clear hg
  have F1 := Lib.hid h1
  obtain ⟨A1, c1, A1', c1', A1'', c1'', rfl, hc1, hd1, _⟩ := h1.parts
  obtain ⟨b1, o1, _, _, rfl, _⟩ := Net.rowAt F1.out (u := 0) (by omega)
  clear h1
  obtain ⟨WA, HWA⟩ : ∃ W, Hid (W = (w.alloc (.cells #[.slice (some ⟨b1, o1, none⟩) N.ends.length c1, .slice A1' N.ids.length c1', .slice A1'' N.inputs.length c1''] 31))) := ⟨_, Lib.hid rfl⟩
  have hbA : Below w.heap.size w WA := by rw [HWA.out]; exact ((Below.refl _ _).alloc (Nat.le_refl _) _)
  have hsA : w.heap.size + 1 ≤ WA.heap.size := by rw [HWA.out]; simp; try omega
  have bx1 : BoxN WA (w.heap.size) #[.slice (some ⟨b1, o1, none⟩) N.ends.length c1, .slice A1' N.ids.length c1', .slice A1'' N.inputs.length c1''] 31 := by rw [HWA.out]; exact (BoxN.new' _ _ _ (by simp))
  have G1 := Lib.hid (Net.below F1.out hbA hh1); clear F1
  go_enter Try.func82, Try.ntmps82
  go_upto_region 1 with (fail)
  rw [← HWA.out]; clear HWA
  have kbx1_0 : WA.cell? ⟨w.heap.size, 0, none⟩ = some (.slice (some ⟨b1, o1, none⟩) N.ends.length c1) := bx1.cell 0 (by simp)
  have kbx1_1 : WA.cell? ⟨w.heap.size, 1, none⟩ = some (.slice A1' N.ids.length c1') := bx1.cell 1 (by simp)
  have kbx1_2 : WA.cell? ⟨w.heap.size, 2, none⟩ = some (.slice A1'' N.inputs.length c1'') := bx1.cell 2 (by simp)
  go_wp2_with fail
  clear kbx1_0 kbx1_1 kbx1_2
  refine (noMatching_any _ N lo1 hi1 _ G1.out (by omega) (by omega)).mono ?_
  rintro e W1 ⟨ro, rfl, hro, hb1⟩
  have hg1 := grown_below hb1; clear hb1
  have hs1 := hg1.size
  have HF1 := Lib.hid ((Turned.refl WA.heap.size WA.heap.size WA).still hg1)
  have O1 := Lib.hid hro; clear hro
  obtain ⟨Ao, co, rfl, hco, hdo⟩ := O1.out.dims
  obtain ⟨bo, oo, rfl, lbo, hbo, _, _⟩ := IntS.opened O1.out (j := 0) (by simp; omega)
  rw [List.length_replicate] at hco ⊢
  have N_1 := Lib.hid (Net.turned G1.out HF1.out (by omega) (by omega)); clear G1
  have bx1_1 := HF1.out.boxN bx1 (by omega); clear bx1
  have hbA1 := (HF1.out.below_of hbA (by omega) (by omega)); clear hbA HF1
  rw [List.length_replicate] at O1
  go_wp2_with fail
  go_loopw [7] (fun c wr => ∃ (k : Nat) (l : List Int), c = .int .i64 k ∧ Hid (IntS wr WA.heap.size W1.heap.size (.slice (some ⟨bo, oo, none⟩) N.ends.length co) l) ∧ Hid (PTop N a k l) ∧ Hid (Turned WA.heap.size W1.heap.size W1 wr)) (fun c _ => N.ends.length + 1 - (intOf c).toNat)
  case atStart => exact ⟨0, peel0 N, rfl, O1, Lib.hid (PTop.zero N a), Lib.hid (Turned.refl WA.heap.size W1.heap.size W1)⟩
  case round =>
    obtain ⟨k, l, rfl, HO, HT, HF2⟩ := hrel
    have hs2 := HF2.out.size
    have hkl := HT.out.inv.k_le
    cases hm : decide ((-1 : Int) ∈ l) with
    | false =>
      have HM := Lib.hid hm; clear hm
      go_wp2_with (go_at_call 124; refine (contains_any _ l _ _ _ _ HO.out).mono ?_; rintro e w' ⟨rfl, rfl⟩; rw [HM.out])
      go_ret2
      have hst := HT.out.stop (no_left HT.out.inv (of_decide_eq_false HM.out))
      have hok : peelOk N a = true := by unfold peelOk; rw [hst, HM.out]; rfl
      refine ⟨_, ret_vb hok.symm, ?_, (HF2.out.below_of hbA1 (by omega) (by omega))⟩
      unfold peelLay; rw [hok, if_pos rfl, hst]
      exact HO.out.mono (by omega) (by omega)
    | true =>
      have HM := Lib.hid hm; clear hm
      go_wp2_with (first | (go_at_call 124; refine (contains_any _ l _ _ _ _ HO.out).mono ?_; rintro e w' ⟨rfl, rfl⟩; rw [HM.out]))
      refine (clone_any _ l _ _ _ HO.out (by rw [HT.out.inv.len]; omega)).mono ?_
      rintro e W3 ⟨rb, rfl, hrb, hb3⟩
      have hg3 := grown_below hb3; clear hb3
      have hs3 := hg3.size
      have HF3 := Lib.hid (HF2.out.still hg3); clear HF2
      have O3 := Lib.hid (IntS.still HO.out hg3 (by omega)); clear HO
      replace hrb := hrb.ints
      have B3 := Lib.hid hrb; clear hrb
      obtain ⟨wo, rfl⟩ : ∃ wo : World, wo = wr := ⟨_, rfl⟩
      obtain ⟨Ab, cb, rfl, hcb, hdb⟩ := B3.out.dims
      obtain ⟨bb, ob, rfl, lbb, hbb, _, _⟩ := IntS.opened B3.out (j := 0) (by rw [HT.out.inv.len]; omega)
      have HLN := Lib.hid HT.out.inv.len
      rw [HLN.out] at hcb ⊢
      rw [HLN.out] at B3
      go_wp2_with fail
      go_loopw [20] (fun i wr => ∃ (m : Nat) (l2 : List Int), m ≤ N.ends.length ∧ i = .int .i64 m ∧ Hid (IntS wr WA.heap.size W1.heap.size (.slice (some ⟨bo, oo, none⟩) N.ends.length co) l2) ∧ Hid (IntS wr wo.heap.size W3.heap.size (.slice (some ⟨bb, ob, none⟩) N.ends.length cb) l) ∧ Hid (peelMid N a k l m l2) ∧ W3.heap.size ≤ wr.heap.size ∧ Hid (Turned WA.heap.size W1.heap.size W1 wr)) (fun i _ => N.ends.length - (intOf i).toNat)
      case atStart => exact ⟨0, l, Nat.zero_le _, rfl, O3, B3, Lib.hid (peelMid.zero HLN.out), Nat.le_refl _, HF3⟩
      case round =>
        clear HF3
        obtain ⟨m, l2, hm, rfl, HO, HB, HP, hz, HF4⟩ := hrel
        have hs4 := HF4.out.size
        by_cases hml : m < N.ends.length
        case neg =>
          obtain rfl : m = N.ends.length := by omega
          have hp2 := HP.out.done
          subst hp2
          go_wp2_with fail
          refine (equal_any _ _ (peelStep N a k l) l _ _ _ _ _ HO.out HB.out).mono ?_
          rintro e W5 ⟨rfl, hb5⟩
          have hg5 := grown_below hb5; clear hb5
          have hs5 := hg5.size
          have HF5 := Lib.hid (HF4.out.still hg5); clear HF4
          have O5 := Lib.hid (IntS.still HO.out hg5 (by omega)); clear HO
          have B5 := Lib.hid (IntS.still HB.out hg5 (by omega)); clear HB
          rw [step_same HT.out.inv]
          cases ha : anyPeel N a l with
          | false =>
            have HA := Lib.hid ha; clear ha
            go_wp2_with fail
            go_ret2
            have hst := HT.out.stop HA.out
            have hok : peelOk N a = false := by unfold peelOk; rw [hst, HM.out]; rfl
            refine ⟨_, ret_vb hok.symm, ?_, (HF5.out.below_of hbA1 (by omega) (by omega))⟩
            unfold peelLay; rw [hok]
            exact IntS.nil _ _ _
          | true =>
            have HA := Lib.hid ha; clear ha
            have hk2 := (HT.out.inv.step HA.out).k_le
            go_wp2_with fail
            go_roundw
            case rel => exact ⟨k + 1, _, by go_num, O5, Lib.hid (HT.out.step HA.out), HF5⟩
            case measure => simp [intOf]; omega
        obtain ⟨x1, x2⟩ := HB.out.at_ (j := m) (by rw [HLN.out]; exact hml)
        obtain ⟨y1, y2⟩ := HO.out.at_ (j := m) (by rw [HP.out.1]; exact hml)
        obtain ⟨x, HX⟩ : ∃ x, Hid (nth l m = x) := ⟨_, Lib.hid rfl⟩
        rw [HX.out] at x1
        by_cases hx : x < 0
        case neg =>
          have hpa : Hid (peelAt N a l m = false) := Lib.hid (by unfold peelAt; rw [HX.out, decide_eq_false hx]; rfl)
          go_wp2_with fail
          go_roundw
          case rel => exact ⟨m + 1, l2, by omega, by go_num, HO, HB, Lib.hid (HP.out.no hpa.out), hz, HF4⟩
          case measure => simp [intOf]; omega
        clear y1 y2
        have kbx1_0 : wr.cell? ⟨w.heap.size, 0, none⟩ = some (.slice (some ⟨b1, o1, none⟩) N.ends.length c1) := (HF4.out.boxN bx1_1 (by omega)).cell 0 (by simp)
        have kbx1_1 : wr.cell? ⟨w.heap.size, 1, none⟩ = some (.slice A1' N.ids.length c1') := (HF4.out.boxN bx1_1 (by omega)).cell 1 (by simp)
        have kbx1_2 : wr.cell? ⟨w.heap.size, 2, none⟩ = some (.slice A1'' N.inputs.length c1'') := (HF4.out.boxN bx1_1 (by omega)).cell 2 (by simp)
        go_wp2_with fail
        clear kbx1_0 kbx1_1 kbx1_2 x1 x2
        refine (portsWith_any _ N lo1 hi1 m _ l _ _ (-1) _ (Net.turned N_1.out HF4.out (by omega) (by omega)) (by omega) HB.out (by omega) HG.out hml HLN.out).mono ?_
        rintro e W6 ⟨rfl, hb6⟩
        have hg6 := grown_below hb6; clear hb6
        have hs6 := hg6.size
        have HF6 := Lib.hid (HF4.out.still hg6); clear HF4
        have O6 := Lib.hid (IntS.still HO.out hg6 (by omega)); clear HO
        have B6 := Lib.hid (IntS.still HB.out hg6 (by omega)); clear HB
        have hpl := portsC_le N m l (-1)
        have hd6 := good_deg HG.out hml
        obtain ⟨p, HPP⟩ : ∃ p : Nat, Hid (portsC N m l (-1) = p) := ⟨_, Lib.hid rfl⟩
        rw [HPP.out] at hpl ⊢
        by_cases hpa : (p : Int) ≤ a
        case neg =>
          have hpa' : Hid (peelAt N a l m = false) := Lib.hid (by unfold peelAt; rw [HPP.out, decide_eq_false hpa, Bool.and_false])
          go_wp2_with fail
          go_roundw
          case rel => exact ⟨m + 1, l2, by omega, by go_num, O6, B6, Lib.hid (HP.out.no hpa'.out), by omega, HF6⟩
          case measure => simp [intOf]; omega
        have hpa' : Hid (peelAt N a l m = true) := Lib.hid (by unfold peelAt; rw [HX.out, HPP.out, decide_eq_true hpa, decide_eq_true hx]; rfl)
        obtain ⟨y1, y2⟩ := O6.out.at_ (j := m) (by rw [HP.out.1]; exact hml)
        have HS := Lib.hid (O6.out.set (j := m) (by rw [HP.out.1]; exact hml) k)
        obtain ⟨y, HY⟩ : ∃ y, Hid (nth l2 m = y) := ⟨_, Lib.hid rfl⟩
        rw [HY.out] at y1
        have hgs := grown_set W6 ⟨bo, oo + m, none⟩ (.int .i64 k)
        have HBN := Lib.hid (IntS.far B6.out hgs (by omega) (fun g hg => by cases hg; exact .inl (by show bo < _; omega)))
        have HFN := Lib.hid (HF6.out.grown hgs fun g hg => .inl (by cases hg; exact ⟨lbo, hbo⟩))
        go_wp2_with fail
        go_roundw
        case rel => exact ⟨m + 1, _, by omega, by go_num, HS, HBN, Lib.hid (HP.out.yes hml hpa'.out), by rw [size_setCell]; omega, HFN⟩
        case measure => simp [intOf]; omega

end Go.Proofs.Ytapfighdnfmdcaa
