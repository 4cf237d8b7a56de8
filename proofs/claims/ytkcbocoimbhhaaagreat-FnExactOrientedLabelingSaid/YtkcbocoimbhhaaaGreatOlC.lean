/-
  Several texts in one: PrS, CyB, Put, CyD, PrT, PrB, PrC, PrF, PrG, PrR, PrH. No condition on any program.
-/
import Derived.Test.YtkcbocoimbhhaaaGreatOlB
import Derived.Test.YtkcbocoimbhhaaaGreatOlA
import Derived.Laws.AppendOwnNone
import Derived.Deep.AppendLies
import Derived.Lib.AppendZeros
import Derived.Lib.SliceRun

/- Contracts: problems, edges, pairs of labels (reference). -/
namespace Go.Proofs.YtkcbocoimbhhaaaGreat
open Go.ChangeShapes Go.WideShapes Go.ChangeAt Go.RowKit
set_option linter.unusedVariables false

theorem all_smallP {zs : List Int} {L : Int} (hL : L ≤ 1000) (h : (zs.all fun x => inB x 0 (L - 1)) = true) : ∀ z ∈ zs, -1000000 ≤ z ∧ z ≤ 1000000 := by
  intro z hz
  have h2 := List.all_eq_true.1 h z hz
  have := inB_le h2
  omega
theorem cfgAt_parts {size L : Int} {l : List (List Int)} {i : Nat} (h : cfgAt size L l i = true) : ((nthL l i).length : Int) = size ∧ ((nthL l i).all fun x => inB x 0 (L - 1)) = true ∧ sortedB (nthL l i) = true := by
  unfold cfgAt at h
  rw [Bool.and_eq_true, Bool.and_eq_true, Bool.and_eq_true] at h
  exact ⟨by simpa using h.1, h.2.2.1, h.2.1⟩
theorem l1LeastP_any (a b : Int) (w : World) : Calls Tryz.prog 130 #[.int .i64 a, .int .i64 b] w fun e w' => e = .returned (.int .i64 (min a b)) ∧ w = w' := by
  by_cases h : a < b
  · have hm : min a b = a := by omega
    rw [hm]
    go_enter Tryz.func130, Tryz.ntmps130
    go_wp2_with fail
    go_ret
    exact ⟨rfl, rfl⟩
  · have hm : min a b = b := by omega
    rw [hm]
    go_enter Tryz.func130, Tryz.ntmps130
    go_wp2_with fail
    go_ret
    exact ⟨rfl, rfl⟩
theorem l1MostP_any (a b : Int) (w : World) : Calls Tryz.prog 131 #[.int .i64 a, .int .i64 b] w fun e w' => e = .returned (.int .i64 (max a b)) ∧ w = w' := by
  by_cases h : b < a
  · have hm : max a b = a := by omega
    rw [hm]
    go_enter Tryz.func131, Tryz.ntmps131
    go_wp2_with fail
    go_ret
    exact ⟨rfl, rfl⟩
  · have hm : max a b = b := by omega
    rw [hm]
    go_enter Tryz.func131, Tryz.ntmps131
    go_wp2_with fail
    go_ret
    exact ⟨rfl, rfl⟩

set_option maxHeartbeats 4000000 in
set_option maxRecDepth 100000 in
theorem prLists_any (v1 : Value) (l : List (List Int)) (lo1 hi1 : Nat) (size : Int) (L : Int) (w : World) (h1 : IntSS w lo1 hi1 v1 l) (hh1 : hi1 ≤ w.heap.size) (hL0 : -1000 ≤ L) (hL1 : L ≤ 1000) :
    Calls Tryz.prog 69 #[v1, .int .i64 size, .int .i64 L] w fun e w' => e = .returned (.bool (cfgOk size L l)) ∧ Below w.heap.size w w' := by
  have F1 := Lib.hid h1
  obtain ⟨A1, c1, rfl, hc1, hd1⟩ := h1.dims
  clear h1
  go_enter Tryz.func69, Tryz.ntmps69
  go_wp2_with fail
  go_loopw [12] (fun iv wr => ∃ (k : Nat), k ≤ l.length ∧ iv = .int .i64 k ∧ Hid (∀ j, j < k → cfgAt size L l j = true) ∧ Hid (Turned w.heap.size w.heap.size w wr)) (fun iv _ => l.length - (intOf iv).toNat)
  case atStart => exact ⟨0, Nat.zero_le _, rfl, Lib.hid (fun j hj => absurd hj (by omega)), Lib.hid (Turned.refl w.heap.size w.heap.size w)⟩
  case round =>
    obtain ⟨k, hk, rfl, HG, HF1⟩ := hrel
    have hs1 := HF1.out.size
    by_cases hlt : k < l.length
    case neg =>
      go_wp2_with fail
      go_ret
      exact ⟨ret_bool (by unfold cfgOk; exact (rangeAll_true fun j hj => HG.out j (by omega)).symm), (HF1.out.below_of (Below.refl _ _) (by omega) (by omega))⟩
    obtain ⟨br, or, ur, rfl, _, hbr, zr, hur⟩ := SS.opened F1.out hlt
    replace zr := (HF1.out.cell (by omega) (by omega)).trans zr
    obtain ⟨Ar, cr, rfl, hcr, hdr⟩ := hur.dims
    have Ur := Lib.hid hur; clear hur
    obtain ⟨wq, rfl⟩ : ∃ wq : World, wq = wr := ⟨_, rfl⟩
    have hki : (k : Int) < l.length := by omega
    have hwL : IntKind.i64.wrap (L - 1) = L - 1 := IntWalk.i64_in _ (by omega)
    by_cases hl2 : ((nthL l k).length : Int) = size
    case neg =>
      have hne : (((nthL l k).length : Int) != size) = true := by simpa using hl2
      have HL2 := Lib.hid hl2; clear hl2
      go_wp2_with fail
      go_ret
      exact ⟨ret_bool (by unfold cfgOk; exact (rangeAll_false hlt (by unfold cfgAt; rw [decide_eq_false HL2.out]; rfl)).symm), (HF1.out.below_of (Below.refl _ _) (by omega) (by omega))⟩
    have hne : (((nthL l k).length : Int) != size) = false := by simpa using hl2
    have HL2 := Lib.hid hl2; clear hl2
    go_wp2_with fail
    refine (l1All_any _ (nthL l k) 0 (L - 1) _ _ _ (IntS.turned Ur.out HF1.out (by omega) (by omega))).mono ?_
    rintro e w' ⟨rfl, rfl⟩
    by_cases ha : ((nthL l k).all fun x => inB x 0 (L - 1)) = true
    case neg =>
      have ha' : ((nthL l k).all fun x => inB x 0 (L - 1)) = false := by simpa using ha
      rw [ha']
      have HA := Lib.hid ha'; clear ha ha'
      go_wp2_with fail
      go_ret
      exact ⟨ret_bool (by unfold cfgOk; exact (rangeAll_false hlt (by unfold cfgAt; rw [HA.out, Bool.false_and, Bool.and_false, Bool.and_false])).symm), (HF1.out.below_of (Below.refl _ _) (by omega) (by omega))⟩
    rw [ha]
    have HA := Lib.hid ha; clear ha
    by_cases hk0 : k = 0
    case pos =>
      have hki0 : ¬ (0 : Int) < (k : Int) := by omega
      have HK0 := Lib.hid hk0; clear hk0
      obtain ⟨m, HM⟩ : ∃ m, Hid ((nthL l k).length = m) := ⟨_, Lib.hid rfl⟩
      have hm63 : m ≤ 9223372036854775807 := by rw [← HM.out]; omega
      obtain rfl : size = (m : Int) := by rw [← HL2.out, HM.out]
      go_wp2_with fail
      go_loopw [9] (fun jv wr => ∃ (j : Nat), 1 ≤ j ∧ jv = .int .i64 j ∧ Hid (∀ i, i + 1 < j → nth (nthL l k) i ≤ nth (nthL l k) (i + 1)) ∧ (j ≤ m ∨ j = 1) ∧ Hid (Turned w.heap.size w.heap.size w wr)) (fun jv _ => m - (intOf jv).toNat)
      case atStart => exact ⟨1, Nat.le_refl _, rfl, Lib.hid (fun i hi => absurd hi (by omega)), .inr rfl, HF1⟩
      case round =>
        clear HF1
        obtain ⟨j, hj1, rfl, HS, hjm, HF2⟩ := hrel
        have hs2 := HF2.out.size
        obtain ⟨w8, rfl⟩ : ∃ w8 : World, w8 = wr := ⟨_, rfl⟩
        by_cases hjl : j < m
        case neg =>
          have hji : ¬ (j : Int) < m := by omega
          have HSO := Lib.hid (show sortedB (nthL l k) = true from sortedB_is.2 fun i hi => HS.out i (by have := HM.out; omega))
          go_wp2_with fail
          go_roundw
          case rel => exact ⟨k + 1, by omega, by go_num, Lib.hid (below_succY HG.out (by unfold cfgAt; rw [decide_eq_true HL2.out, HSO.out, HA.out, decide_eq_true HK0.out]; rfl)), HF2⟩
          case measure => simp [intOf]; omega
        have hji : (j : Int) < m := by omega
        obtain ⟨p, HP⟩ : ∃ z, Hid (j - 1 = z) := ⟨_, Lib.hid rfl⟩
        have hpm : (p : Int) < m := by have := HP.out; omega
        have hjp : (j : Int) - 1 = (p : Int) := by have := HP.out; omega
        have hwp : IntKind.i64.wrap ((j : Int) - 1) = (p : Int) := by rw [hjp]; exact IntWalk.i64_in _ (by omega)
        have hrow := (IntS.turned Ur.out HF2.out (by omega) (by omega))
        obtain ⟨b9, o9, e9, _, hb9, xp, _⟩ := hrow.opened (j := p) (by rw [HM.out]; have := HP.out; omega)
        cases e9
        obtain ⟨_, _, e9, _, _, xj, _⟩ := hrow.opened (j := j) (by rw [HM.out]; exact hjl)
        cases e9
        obtain ⟨y0, HY0⟩ : ∃ y, Hid (nth (nthL l k) p = y) := ⟨_, Lib.hid rfl⟩
        obtain ⟨y1, HY1⟩ : ∃ y, Hid (nth (nthL l k) j = y) := ⟨_, Lib.hid rfl⟩
        rw [HY0.out] at xp
        rw [HY1.out] at xj
        rw [HM.out] at hrow hcr
        try rw [HM.out]
        clear hrow hjp
        go_wp2_with fail
        by_cases hgt : y1 < y0
        case pos =>
          have HNS := Lib.hid (show sortedB (nthL l k) = false from sortedB_no (j := p) (by rw [HM.out]; have := HP.out; omega) (by rw [HY0.out, show p + 1 = j by have := HP.out; omega, HY1.out]; exact hgt))
          go_quiet (fail)
          have HFQ := Lib.hid (HF2.out.still (grown_drewN _ nq))
          go_wp2_with fail
          go_ret
          exact ⟨ret_bool (by unfold cfgOk; exact (rangeAll_false hlt (by unfold cfgAt; rw [HNS.out, Bool.false_and, Bool.and_false])).symm), (HFQ.out.below_of (Below.refl _ _) (by omega) (by omega))⟩
        have HSN := Lib.hid (show ∀ i, i + 1 < j + 1 → nth (nthL l k) i ≤ nth (nthL l k) (i + 1) from fun i hi => by
          by_cases e : i = p
          · subst e; rw [HY0.out, show i + 1 = j by have := HP.out; omega, HY1.out]; omega
          · exact HS.out i (by have := HP.out; omega))
        go_quiet (fail)
        have HFQ := Lib.hid (HF2.out.still (grown_drewN _ nq))
        go_wp2_with fail
        go_roundw
        case rel => exact ⟨j + 1, by omega, by go_num, HSN, by omega, HFQ⟩
        case measure => simp [intOf]; omega
    obtain ⟨p, HP⟩ : ∃ z, Hid (k - 1 = z) := ⟨_, Lib.hid rfl⟩
    have hpl : p < l.length := by have := HP.out; omega
    have hki0 : (0 : Int) < (k : Int) := by omega
    have hk1 : ((k : Int) - 1) = (p : Int) := by have := HP.out; omega
    have hk1i : (p : Int) < l.length := by omega
    obtain ⟨uq, hbq, zq, huq⟩ := SS.openedIn F1.out hpl
    replace zq := (HF1.out.cell (by omega) (by omega)).trans zq
    obtain ⟨Aq, cq, rfl, hcq, hdq⟩ := huq.dims
    have Uq := Lib.hid huq; clear huq
    have hwk : IntKind.i64.wrap ((k : Int) - 1) = (p : Int) := by rw [hk1]; exact IntWalk.i64_in _ (by omega)
    have HCP := Lib.hid (cfgAt_parts (HG.out p (by have := HP.out; omega)))
    go_wp2_with fail
    refine (prOrder_any _ (nthL l p) _ _ _ (nthL l k) _ _ _ (IntS.turned Uq.out HF1.out (by omega) (by omega)) (by omega) (IntS.turned Ur.out HF1.out (by omega) (by omega)) (by omega) (by have h1 := HCP.out.1; have h2 := HL2.out; omega) (all_smallP hL1 HCP.out.2.1) (all_smallP hL1 HA.out)).mono ?_
    rintro e w' ⟨rfl, rfl⟩
    obtain ⟨cv, HCV⟩ : ∃ x, Hid (cmpL (nthL l p) (nthL l k) = x) := ⟨_, Lib.hid rfl⟩
    rw [HCV.out]
    by_cases hcv : cv < 0
    case neg =>
      have hcge : (0 : Int) ≤ cv := by omega
      have HC0 := Lib.hid hcv; have HK0 := Lib.hid hk0; clear hcv hk0
      go_wp2_with fail
      go_ret
      exact ⟨ret_bool (by unfold cfgOk; exact (rangeAll_false hlt (by unfold cfgAt; rw [HP.out, HCV.out, decide_eq_false (show ¬ cv < 0 by have := HC0.out; omega), decide_eq_false HK0.out]; simp)).symm), (HF1.out.below_of (Below.refl _ _) (by omega) (by omega))⟩
    have hcge : ¬ (0 : Int) ≤ cv := by omega
    have HC0 := Lib.hid hcv; clear hcv
    obtain ⟨p9, HP9⟩ : ∃ z, Hid (p = z) := ⟨_, Lib.hid rfl⟩
    have HORD := Lib.hid (show (decide (k = 0) || decide (cmpL (nthL l (k - 1)) (nthL l k) < 0)) = true by rw [HP.out, HCV.out, decide_eq_true HC0.out, Bool.or_true])
    clear HP hk1 hwk hpl hk1i zq HCV HC0 HCP
    obtain ⟨m, HM⟩ : ∃ m, Hid ((nthL l k).length = m) := ⟨_, Lib.hid rfl⟩
    have hm63 : m ≤ 9223372036854775807 := by rw [← HM.out]; omega
    obtain rfl : size = (m : Int) := by rw [← HL2.out, HM.out]
    go_wp2_with fail
    go_loopw [9] (fun jv wr => ∃ (j : Nat), 1 ≤ j ∧ jv = .int .i64 j ∧ Hid (∀ i, i + 1 < j → nth (nthL l k) i ≤ nth (nthL l k) (i + 1)) ∧ (j ≤ m ∨ j = 1) ∧ Hid (Turned w.heap.size w.heap.size w wr)) (fun jv _ => m - (intOf jv).toNat)
    case atStart => exact ⟨1, Nat.le_refl _, rfl, Lib.hid (fun i hi => absurd hi (by omega)), .inr rfl, HF1⟩
    case round =>
      clear HF1
      obtain ⟨j, hj1, rfl, HS, hjm, HF3⟩ := hrel
      have hs3 := HF3.out.size
      obtain ⟨w8, rfl⟩ : ∃ w8 : World, w8 = wr := ⟨_, rfl⟩
      by_cases hjl : j < m
      case neg =>
        have hji : ¬ (j : Int) < m := by omega
        have HSO := Lib.hid (show sortedB (nthL l k) = true from sortedB_is.2 fun i hi => HS.out i (by have := HM.out; omega))
        go_wp2_with fail
        go_roundw
        case rel => exact ⟨k + 1, by omega, by go_num, Lib.hid (below_succY HG.out (by unfold cfgAt; rw [decide_eq_true HL2.out, HSO.out, HA.out, HORD.out]; rfl)), HF3⟩
        case measure => simp [intOf]; omega
      have hji : (j : Int) < m := by omega
      obtain ⟨p, HP⟩ : ∃ z, Hid (j - 1 = z) := ⟨_, Lib.hid rfl⟩
      have hpm : (p : Int) < m := by have := HP.out; omega
      have hjp : (j : Int) - 1 = (p : Int) := by have := HP.out; omega
      have hwp : IntKind.i64.wrap ((j : Int) - 1) = (p : Int) := by rw [hjp]; exact IntWalk.i64_in _ (by omega)
      have hrow := (IntS.turned Ur.out HF3.out (by omega) (by omega))
      obtain ⟨b9, o9, e9, _, hb9, xp, _⟩ := hrow.opened (j := p) (by rw [HM.out]; have := HP.out; omega)
      cases e9
      obtain ⟨_, _, e9, _, _, xj, _⟩ := hrow.opened (j := j) (by rw [HM.out]; exact hjl)
      cases e9
      obtain ⟨y0, HY0⟩ : ∃ y, Hid (nth (nthL l k) p = y) := ⟨_, Lib.hid rfl⟩
      obtain ⟨y1, HY1⟩ : ∃ y, Hid (nth (nthL l k) j = y) := ⟨_, Lib.hid rfl⟩
      rw [HY0.out] at xp
      rw [HY1.out] at xj
      rw [HM.out] at hrow hcr
      try rw [HM.out]
      clear hrow hjp
      go_wp2_with fail
      by_cases hgt : y1 < y0
      case pos =>
        have HNS := Lib.hid (show sortedB (nthL l k) = false from sortedB_no (j := p) (by rw [HM.out]; have := HP.out; omega) (by rw [HY0.out, show p + 1 = j by have := HP.out; omega, HY1.out]; exact hgt))
        go_quiet (fail)
        have HFQ := Lib.hid (HF3.out.still (grown_drewN _ nq))
        go_wp2_with fail
        go_ret
        exact ⟨ret_bool (by unfold cfgOk; exact (rangeAll_false hlt (by unfold cfgAt; rw [HNS.out, Bool.false_and, Bool.and_false])).symm), (HFQ.out.below_of (Below.refl _ _) (by omega) (by omega))⟩
      have HSN := Lib.hid (show ∀ i, i + 1 < j + 1 → nth (nthL l k) i ≤ nth (nthL l k) (i + 1) from fun i hi => by
        by_cases e : i = p
        · subst e; rw [HY0.out, show i + 1 = j by have := HP.out; omega, HY1.out]; omega
        · exact HS.out i (by have := HP.out; omega))
      go_quiet (fail)
      have HFQ := Lib.hid (HF3.out.still (grown_drewN _ nq))
      go_wp2_with fail
      go_roundw
      case rel => exact ⟨j + 1, by omega, by go_num, HSN, by omega, HFQ⟩
      case measure => simp [intOf]; omega

set_option maxHeartbeats 4000000 in
set_option maxRecDepth 100000 in
theorem prGood_any (v1 : Value) (P : PrD) (lo1 hi1 : Nat) (w : World) (h1 : Pro w lo1 hi1 v1 P) (hh1 : hi1 ≤ w.heap.size)  :
    Calls Tryz.prog 40 #[v1] w fun e w' => e = .returned (.bool P.good) ∧ Below w.heap.size w w' := by
  have F1 := Lib.hid h1
  obtain ⟨A1, c1, A1', c1', rfl, hc1, hd1⟩ := h1.parts
  clear h1
  obtain ⟨WA, HWA⟩ : ∃ W, Hid (W = (w.alloc (.cells #[.int .i64 P.L, .int .i64 P.D, .slice A1 P.nodes.length c1, .slice A1' P.edges.length c1'] 34))) := ⟨_, Lib.hid rfl⟩
  have hbA : Below w.heap.size w WA := by rw [HWA.out]; exact ((Below.refl _ _).alloc (Nat.le_refl _) _)
  have hsA : w.heap.size + 1 ≤ WA.heap.size := by rw [HWA.out]; simp; try omega
  have bx1 : BoxN WA (w.heap.size) #[.int .i64 P.L, .int .i64 P.D, .slice A1 P.nodes.length c1, .slice A1' P.edges.length c1'] 34 := by rw [HWA.out]; exact (BoxN.new' _ _ _ (by simp))
  have G1 := Lib.hid (Pro.below F1.out hbA hh1); clear F1
  go_enter Tryz.func40, Tryz.ntmps40
  go_upto_region 1 with (fail)
  rw [← HWA.out]; clear HWA
  have kbx1_0 : WA.cell? ⟨w.heap.size, 0, none⟩ = some (.int .i64 P.L) := bx1.cell 0 (by simp)
  have kbx1_1 : WA.cell? ⟨w.heap.size, 1, none⟩ = some (.int .i64 P.D) := bx1.cell 1 (by simp)
  have kbx1_2 : WA.cell? ⟨w.heap.size, 2, none⟩ = some (.slice A1 P.nodes.length c1) := bx1.cell 2 (by simp)
  have kbx1_3 : WA.cell? ⟨w.heap.size, 3, none⟩ = some (.slice A1' P.edges.length c1') := bx1.cell 3 (by simp)
  go_wp2_with fail
  refine (l1In_any P.L 1 8 _).mono ?_
  rintro e w' ⟨rfl, rfl⟩
  by_cases hL : inB P.L 1 8 = true
  case neg =>
    have hL' : inB P.L 1 8 = false := by simpa using hL
    rw [hL']
    have HR := Lib.hid (show P.good = false by unfold PrD.good; rw [hL']; rfl)
    clear hL hL'
    go_wp2_with fail
    go_ret
    exact ⟨ret_bool HR.out.symm, hbA⟩
  obtain ⟨l0, l1⟩ := inB_le hL
  rw [hL]
  have HL := Lib.hid hL; clear hL
  go_wp2_with fail
  refine (l1In_any P.D 1 4 _).mono ?_
  rintro e w' ⟨rfl, rfl⟩
  by_cases hD : inB P.D 1 4 = true
  case neg =>
    have hD' : inB P.D 1 4 = false := by simpa using hD
    rw [hD']
    have HR := Lib.hid (show P.good = false by unfold PrD.good; rw [HL.out, hD']; rfl)
    clear hD hD'
    go_wp2_with fail
    go_ret
    exact ⟨ret_bool HR.out.symm, hbA⟩
  obtain ⟨d0, d1⟩ := inB_le hD
  rw [hD]
  have HD := Lib.hid hD; clear hD
  go_wp2_with fail
  clear kbx1_0 kbx1_1 kbx1_2 kbx1_3
  refine (prLists_any _ P.nodes _ _ P.D P.L _ (Pro.nodesS G1.out) (by omega) (by omega) (by omega)).mono ?_
  rintro e W1 ⟨rfl, hb1⟩
  have hg1 := grown_below hb1; clear hb1
  have hs1 := hg1.size
  have HF1 := Lib.hid ((Turned.refl WA.heap.size WA.heap.size WA).still hg1)
  cases hn : cfgOk P.D P.L P.nodes with
  | false =>
    have HR := Lib.hid (show P.good = false by unfold PrD.good; rw [HL.out, HD.out, hn]; rfl)
    clear hn
    go_wp2_with fail
    go_ret
    exact ⟨ret_bool HR.out.symm, (HF1.out.below_of hbA (by omega) (by omega))⟩
  | true =>
    have HN := Lib.hid hn; clear hn
    have kbx1_0 : W1.cell? ⟨w.heap.size, 0, none⟩ = some (.int .i64 P.L) := (HF1.out.boxN bx1 (by omega)).cell 0 (by simp)
    have kbx1_1 : W1.cell? ⟨w.heap.size, 1, none⟩ = some (.int .i64 P.D) := (HF1.out.boxN bx1 (by omega)).cell 1 (by simp)
    have kbx1_2 : W1.cell? ⟨w.heap.size, 2, none⟩ = some (.slice A1 P.nodes.length c1) := (HF1.out.boxN bx1 (by omega)).cell 2 (by simp)
    have kbx1_3 : W1.cell? ⟨w.heap.size, 3, none⟩ = some (.slice A1' P.edges.length c1') := (HF1.out.boxN bx1 (by omega)).cell 3 (by simp)
    go_wp2_with fail
    clear kbx1_0 kbx1_1 kbx1_2 kbx1_3
    refine (prLists_any _ P.edges _ _ 2 P.L _ (Pro.edgesS (Pro.turned G1.out HF1.out (by omega) (by omega))) (by omega) (by omega) (by omega)).mono ?_
    rintro e W2 ⟨rfl, hb2⟩
    have hg2 := grown_below hb2; clear hb2
    have hs2 := hg2.size
    have HF2 := Lib.hid (HF1.out.still hg2); clear HF1
    have HR := Lib.hid (show P.good = cfgOk 2 P.L P.edges by unfold PrD.good; rw [HL.out, HD.out, HN.out]; rfl)
    obtain ⟨z, HZ⟩ : ∃ z, Hid (cfgOk 2 P.L P.edges = z) := ⟨_, Lib.hid rfl⟩
    rw [HZ.out] at HR
    rw [HZ.out]
    go_wp2_with fail
    go_ret
    exact ⟨ret_bool HR.out.symm, (HF2.out.below_of hbA (by omega) (by omega))⟩

set_option maxHeartbeats 2000000 in
set_option maxRecDepth 100000 in
theorem prHas_any (v1 : Value) (l : List (List Int)) (lo1 hi1 : Nat) (v2 : Value) (x : List Int) (lo2 hi2 : Nat) (w : World) (h1 : IntSS w lo1 hi1 v1 l) (hh1 : hi1 ≤ w.heap.size) (h2 : IntS w lo2 hi2 v2 x) (hh2 : hi2 ≤ w.heap.size)  :
    Calls Tryz.prog 129 #[v1, v2] w fun e w' => e = .returned (.bool (decide (x ∈ l))) ∧ Below w.heap.size w w' := by
  have F1 := Lib.hid h1
  obtain ⟨A1, c1, rfl, hc1, hd1⟩ := h1.dims
  clear h1
  have F2 := Lib.hid h2
  obtain ⟨A2, c2, rfl, hc2, hd2⟩ := h2.dims
  clear h2
  go_enter Tryz.func129, Tryz.ntmps129
  go_wp2_with fail
  go_loopw [9] (fun iv wr => ∃ (k : Nat), k ≤ l.length ∧ iv = .int .i64 k ∧ Hid (∀ j, j < k → nthL l j ≠ x) ∧ Hid (Turned w.heap.size w.heap.size w wr)) (fun iv _ => l.length - (intOf iv).toNat)
  case atStart => exact ⟨0, Nat.zero_le _, rfl, Lib.hid (fun j hj => absurd hj (by omega)), Lib.hid (Turned.refl w.heap.size w.heap.size w)⟩
  case round =>
    obtain ⟨k, hk, rfl, HN, HF1⟩ := hrel
    have hs1 := HF1.out.size
    obtain ⟨wq, rfl⟩ : ∃ wq : World, wq = wr := ⟨_, rfl⟩
    by_cases hlt : k < l.length
    case neg =>
      have HR := Lib.hid (show decide (x ∈ l) = false from decide_eq_false fun hm => by
        obtain ⟨j, hj, e⟩ := List.mem_iff_getElem.1 hm
        exact HN.out j (by omega) (by rw [nthL_eq hj]; exact e))
      go_wp2_with fail
      go_ret
      exact ⟨ret_bool HR.out.symm, (HF1.out.below_of (Below.refl _ _) (by omega) (by omega))⟩
    obtain ⟨br, or, ur, rfl, _, hbr, zr, hur⟩ := SS.opened F1.out hlt
    replace zr := (HF1.out.cell (by omega) (by omega)).trans zr
    obtain ⟨Ar, cr, rfl, hcr, hdr⟩ := hur.dims
    have Ur := Lib.hid hur; clear hur
    have hki : (k : Int) < l.length := by omega
    go_wp2_with fail
    refine (l1Same_any _ _ x (nthL l k) _ _ _ _ _ (IntS.turned F2.out HF1.out (by omega) (by omega)) (IntS.turned Ur.out HF1.out (by omega) (by omega)) (by omega) (by omega)).mono ?_
    rintro e W2 ⟨rfl, hb2⟩
    have hg2 := grown_below hb2; clear hb2
    have hs2 := hg2.size
    have HF2 := Lib.hid (HF1.out.still hg2); clear HF1
    by_cases he : x = nthL l k
    case pos =>
      rw [decide_eq_true he]
      have HR := Lib.hid (show decide (x ∈ l) = true from decide_eq_true (by rw [he]; exact nthL_mem hlt))
      clear he
      go_wp2_with fail
      go_ret
      exact ⟨ret_bool HR.out.symm, (HF2.out.below_of (Below.refl _ _) (by omega) (by omega))⟩
    rw [decide_eq_false he]
    have HNN := Lib.hid (below_succY (p := fun j => nthL l j ≠ x) HN.out (fun e => he e.symm))
    clear he
    go_wp2_with fail
    go_roundw
    case rel => exact ⟨k + 1, by omega, by go_num, HNN, HF2⟩
    case measure => simp [intOf]; omega

def edgeB (P : PrD) (a b : Int) : Bool := decide ([min a b, max a b] ∈ P.edges)
def pairsB (P : PrD) (x y : List Int) : Bool := x.all fun a => y.all fun b => edgeB P a b

set_option maxHeartbeats 2000000 in
set_option maxRecDepth 100000 in
theorem prEdge_any (v1 : Value) (P : PrD) (lo1 hi1 : Nat) (a : Int) (b : Int) (w : World) (h1 : Pro w lo1 hi1 v1 P) (hh1 : hi1 ≤ w.heap.size)  :
    Calls Tryz.prog 123 #[v1, .int .i64 a, .int .i64 b] w fun e w' => e = .returned (.bool (edgeB P a b)) ∧ Below w.heap.size w w' := by
  have F1 := Lib.hid h1
  obtain ⟨A1, c1, A1', c1', rfl, hc1, hd1⟩ := h1.parts
  clear h1
  obtain ⟨WA, HWA⟩ : ∃ W, Hid (W = (w.alloc (.cells #[.int .i64 P.L, .int .i64 P.D, .slice A1 P.nodes.length c1, .slice A1' P.edges.length c1'] 34))) := ⟨_, Lib.hid rfl⟩
  have hbA : Below w.heap.size w WA := by rw [HWA.out]; exact ((Below.refl _ _).alloc (Nat.le_refl _) _)
  have hsA : w.heap.size + 1 ≤ WA.heap.size := by rw [HWA.out]; simp; try omega
  have bx1 : BoxN WA (w.heap.size) #[.int .i64 P.L, .int .i64 P.D, .slice A1 P.nodes.length c1, .slice A1' P.edges.length c1'] 34 := by rw [HWA.out]; exact (BoxN.new' _ _ _ (by simp))
  have G1 := Lib.hid (Pro.below F1.out hbA hh1); clear F1
  go_enter Tryz.func123, Tryz.ntmps123
  go_upto_region 1 with (fail)
  rw [← HWA.out]; clear HWA
  refine wp_region_U (fun w' => w'.cell? ⟨w.heap.size, 3, none⟩ = some (.slice A1' P.edges.length c1')) [] (by kernel_rfl) ?_
  refine nameU ?_
  intro W1 HW1
  have hg1 : WA.grownBy W1 none := by rw [HW1.out]; exact grown_drew _
  clear HW1
  have hs1 := hg1.size
  have HF1 := Lib.hid ((Turned.refl WA.heap.size WA.heap.size WA).still hg1)
  have hS2 : W1.cell? ⟨w.heap.size, 3, none⟩ = some (.slice A1' P.edges.length c1') := (HF1.out.boxN bx1 (by omega)).cell 3 (by simp)
  refine anyU_take (i := 0) (v := .pointer (some ⟨w.heap.size, 3, none⟩)) rfl (by kernel_rfl) (by kernel_rfl) (by kernel_rfl) (fun _ _ _ h => h) ⟨by rfl, fun w' hS' => (by have s1 := hS'; go_simp)⟩ hS2 ?_
  simp only [List.getElem_toArray, List.getElem_cons_zero, Act.put, List.setIfInBounds_toArray, List.set_cons_zero, List.set_cons_succ]
  refine anyU_take (i := 1) (v := .slice A1' P.edges.length c1') rfl (by kernel_rfl) (by kernel_rfl) (by kernel_rfl) (fun _ _ _ h => h) ⟨by rfl, fun w' hS' => (by have s1 := hS'; go_simp)⟩ hS2 ?_
  simp only [List.getElem_toArray, List.getElem_cons_succ, List.getElem_cons_zero, Act.put, List.setIfInBounds_toArray, List.set_cons_zero, List.set_cons_succ]
  refine anyU_take (i := 2) (v := .int .i64 a) rfl (by kernel_rfl) (by kernel_rfl) (by kernel_rfl) (fun _ _ _ h => h) ⟨by rfl, fun w' hS' => (by have s1 := hS'; go_simp)⟩ hS2 ?_
  simp only [List.getElem_toArray, List.getElem_cons_succ, List.getElem_cons_zero, Act.put, List.setIfInBounds_toArray, List.set_cons_zero, List.set_cons_succ]
  refine anyU_take (i := 3) (v := .int .i64 b) rfl (by kernel_rfl) (by kernel_rfl) (by kernel_rfl) (fun _ _ _ h => h) ⟨by rfl, fun w' hS' => (by have s1 := hS'; go_simp)⟩ hS2 ?_
  simp only [List.getElem_toArray, List.getElem_cons_succ, List.getElem_cons_zero, Act.put, List.setIfInBounds_toArray, List.set_cons_zero, List.set_cons_succ]
  refine anyU_take (i := 5) (v := .int .i64 a) rfl (by kernel_rfl) (by kernel_rfl) (by kernel_rfl) (fun _ _ _ h => h) ⟨by rfl, fun w' hS' => (by have s1 := hS'; go_simp)⟩ hS2 ?_
  simp only [List.getElem_toArray, List.getElem_cons_succ, List.getElem_cons_zero, Act.put, List.setIfInBounds_toArray, List.set_cons_zero, List.set_cons_succ]
  refine anyU_take (i := 6) (v := .int .i64 b) rfl (by kernel_rfl) (by kernel_rfl) (by kernel_rfl) (fun _ _ _ h => h) ⟨by rfl, fun w' hS' => (by have s1 := hS'; go_simp)⟩ hS2 ?_
  simp only [List.getElem_toArray, List.getElem_cons_succ, List.getElem_cons_zero, Act.put, List.setIfInBounds_toArray, List.set_cons_zero, List.set_cons_succ]
  refine anyU_ready (rs := [4]) (by kernel_rfl) (by simp) ?_
  refine ReadyU.cons (i := 4) rfl (fun K hK => ?_) ReadyU.nil
  simp only [List.getElem_toArray, List.getElem_cons_succ, List.getElem_cons_zero]
  refine ite_is (by rfl) ?_
  simp [go_sem]
  refine (l1LeastP_any a b _).mono ?_
  rintro e w' ⟨rfl, rfl⟩
  refine hK.out _ _ ⟨fun _ => hS2, ?_⟩
  clear hK K
  try simp only [List.getElem_toArray, List.getElem_cons_succ, List.getElem_cons_zero, Act.put, List.setIfInBounds_toArray, List.set_cons_zero, List.set_cons_succ]
  refine anyU_ready (rs := [7]) (by kernel_rfl) (by simp) ?_
  refine ReadyU.cons (i := 7) rfl (fun K hK => ?_) ReadyU.nil
  simp only [List.getElem_toArray, List.getElem_cons_succ, List.getElem_cons_zero]
  refine ite_is (by rfl) ?_
  simp [go_sem]
  refine (l1MostP_any a b _).mono ?_
  rintro e w' ⟨rfl, rfl⟩
  refine hK.out _ _ ⟨fun _ => hS2, ?_⟩
  clear hK K
  try simp only [List.getElem_toArray, List.getElem_cons_succ, List.getElem_cons_zero, Act.put, List.setIfInBounds_toArray, List.set_cons_zero, List.set_cons_succ]
  obtain ⟨p, HP⟩ : ∃ z, Hid (min a b = z) := ⟨_, Lib.hid rfl⟩
  obtain ⟨q, HQ⟩ : ∃ z, Hid (max a b = z) := ⟨_, Lib.hid rfl⟩
  rw [HP.out, HQ.out]
  refine anyU_ready (rs := [8]) (by kernel_rfl) (by simp) ?_
  refine ReadyU.cons (i := 8) rfl (fun K hK => ?_) ReadyU.nil
  simp only [List.getElem_toArray, List.getElem_cons_succ, List.getElem_cons_zero]
  refine ite_is (by rfl) ?_
  simp [go_sem]
  refine hK.out _ _ ⟨fun _ => ((HF1.out.boxN bx1 (by omega)).still (grown_alloc _ _)).cell 3 (by simp), ?_⟩
  clear hK K hS2
  try simp only [List.getElem_toArray, List.getElem_cons_succ, List.getElem_cons_zero, Act.put, List.setIfInBounds_toArray, List.set_cons_zero, List.set_cons_succ]
  refine nameU ?_
  intro W3 HW3
  have hg3 : W1.grownBy W3 none := by rw [HW3.out]; exact grown_alloc _ _
  have hs3 := hg3.size
  have HF3 := Lib.hid (HF1.out.still hg3); clear HF1
  have HL := Lib.hid (show IntS W3 W1.heap.size (W1.heap.size + 1) (.slice (some ⟨W1.heap.size, 0, none⟩) 2 2) [p, q] by rw [HW3.out]; exact IntS.newN W1 [p, q] _ rfl (by simp))
  have hzl : W1.heap.size + 1 ≤ W3.heap.size := by rw [HW3.out]; simp
  clear HW3
  have hS4 : W3.cell? ⟨w.heap.size, 3, none⟩ = some (.slice A1' P.edges.length c1') := (HF3.out.boxN bx1 (by omega)).cell 3 (by simp)
  refine anyU_ready (rs := [9]) (by kernel_rfl) (by simp) ?_
  refine ReadyU.cons (i := 9) rfl (fun K hK => ?_) ReadyU.nil
  simp only [List.getElem_toArray, List.getElem_cons_succ, List.getElem_cons_zero]
  refine ite_is (by rfl) ?_
  simp [go_sem]
  refine (prHas_any _ P.edges _ _ _ [p, q] _ _ _ (Pro.edgesS (Pro.turned G1.out HF3.out (by omega) (by omega))) (by omega) HL.out (by omega)).mono ?_
  rintro e W5 ⟨rfl, hb5⟩
  have hg5 := grown_below hb5; clear hb5
  have hs5 := hg5.size
  have HF5 := Lib.hid (HF3.out.still hg5); clear HF3
  have hS6 : W5.cell? ⟨w.heap.size, 3, none⟩ = some (.slice A1' P.edges.length c1') := (HF5.out.boxN bx1 (by omega)).cell 3 (by simp)
  refine hK.out _ _ ⟨fun _ => hS6, ?_⟩
  clear hK K hS4
  try simp only [List.getElem_toArray, List.getElem_cons_succ, List.getElem_cons_zero, Act.put, List.setIfInBounds_toArray, List.set_cons_zero, List.set_cons_succ]
  refine anyU_ready (rs := [10]) (by kernel_rfl) (by simp) ?_
  refine ReadyU.cons (i := 10) rfl (fun K hK => ?_) ReadyU.nil
  simp only [List.getElem_toArray, List.getElem_cons_succ, List.getElem_cons_zero]
  refine ite_is (by rfl) ?_
  simp [go_sem]
  refine hK.out _ _ ⟨fun _ => hS6, ?_⟩
  clear hK K
  try simp only [List.getElem_toArray, List.getElem_cons_succ, List.getElem_cons_zero, Act.put, List.setIfInBounds_toArray, List.set_cons_zero, List.set_cons_succ]
  clear hS6
  refine anyU_done (by kernel_rfl) ?_ _
  have HR := Lib.hid (show edgeB P a b = decide ([p, q] ∈ P.edges) by unfold edgeB; rw [HP.out, HQ.out])
  obtain ⟨z, HZ⟩ : ∃ z, Hid (decide ([p, q] ∈ P.edges) = z) := ⟨_, Lib.hid rfl⟩
  rw [HZ.out] at HR
  try rw [HZ.out]
  go_wp2_with fail
  go_ret
  exact ⟨ret_bool HR.out.symm, (HF5.out.below_of hbA (by omega) (by omega))⟩

end Go.Proofs.YtkcbocoimbhhaaaGreat

/- Contracts: the sets of labels that may follow each label; whether labels are a walk (program). -/
namespace Go.Proofs.YtkcbocoimbhhaaaGreat
open Go.ChangeShapes Go.WideShapes Go.ChangeAt Go.RowKit
set_option linter.unusedVariables false

theorem setOf_12 {n : Nat} (hn : n ≤ 12) (f : Nat → Bool) : setOf n f < 4096 := Nat.lt_of_lt_of_le (setOf_lt n f) (Nat.pow_le_pow_right (by decide : 0 < 2) hn)
theorem orC_i64 (a b : Nat) (ha : a < 4096) (hb : b < 4096) : bits .or .i64 (a : Int) (b : Int) = ((a ||| b : Nat) : Int) := by
  have hx : a ||| b < 2 ^ 12 := Nat.or_lt_two_pow (by omega) (by omega)
  have h1 : (BitVec.ofInt 64 (a : Int)).toNat = a := by
    rw [BitVec.ofInt_natCast, BitVec.toNat_ofNat]; exact Nat.mod_eq_of_lt (by omega)
  have h2 : (BitVec.ofInt 64 (b : Int)).toNat = b := by
    rw [BitVec.ofInt_natCast, BitVec.toNat_ofNat]; exact Nat.mod_eq_of_lt (by omega)
  show IntKind.i64.wrap ((BitVec.ofInt 64 (a : Int) ||| BitVec.ofInt 64 (b : Int)).toNat : Int) = _
  rw [BitVec.toNat_or, h1, h2, IntWalk.i64_in _ (by omega)]
theorem andC2_i64 (a b : Nat) (ha : a < 4096) (hb : b < 4096) : bits .and .i64 (a : Int) (b : Int) = ((a &&& b : Nat) : Int) := by
  have hx : a &&& b < 2 ^ 12 := Nat.and_lt_two_pow _ (by omega)
  have h1 : (BitVec.ofInt 64 (a : Int)).toNat = a := by
    rw [BitVec.ofInt_natCast, BitVec.toNat_ofNat]; exact Nat.mod_eq_of_lt (by omega)
  have h2 : (BitVec.ofInt 64 (b : Int)).toNat = b := by
    rw [BitVec.ofInt_natCast, BitVec.toNat_ofNat]; exact Nat.mod_eq_of_lt (by omega)
  show IntKind.i64.wrap ((BitVec.ofInt 64 (a : Int) &&& BitVec.ofInt 64 (b : Int)).toNat : Int) = _
  rw [BitVec.toNat_and, h1, h2, IntWalk.i64_in _ (by omega)]
theorem orPow (S y : Nat) (hS : S < 4096) (hy : y < 12) : bits .or .i64 (S : Int) (Go.RowKit.wrap64 (2 ^ y)) = ((S ||| 2 ^ y : Nat) : Int) := by
  have hp : 2 ^ y < 4096 := Nat.lt_of_lt_of_le (Nat.pow_lt_pow_right (by decide) hy) (Nat.le_refl _)
  have h1 : Go.RowKit.wrap64 ((2 : Int) ^ y) = ((2 ^ y : Nat) : Int) := by
    rw [show (2 : Int) ^ y = ((2 ^ y : Nat) : Int) by rw [Int.natCast_pow]; rfl]
    generalize 2 ^ y = q at hp
    unfold Go.RowKit.wrap64; omega
  rw [h1, orC_i64 S _ hS hp]
theorem may_at {x y k : Nat} {P : List (List Int)} (hk : k < P.length) (hE : nthL P k = [(x : Int), (y : Int)]) (a b : Nat) : may (P.take (k + 1)) a b = (may (P.take k) a b || (x == a && y == b)) := by
  rw [may_take P hk, hE]; simp [nth]
theorem powW (N i : Nat) : (N : Int) / 2 ^ i = ((N / 2 ^ i : Nat) : Int) := by
  rw [Int.natCast_ediv, Int.natCast_pow]; rfl
theorem andW (m : Nat) (hm : m < 4096) : bits .and .i64 (m : Int) 1 = ((m % 2 : Nat) : Int) := by
  rw [show (1 : Int) = ((1 : Nat) : Int) by rfl, andC2_i64 m 1 hm (by decide), Nat.and_one_is_mod]
end Go.Proofs.YtkcbocoimbhhaaaGreat

/- Appends of whole slices of numbers onto rows of a call's own; the reference's l1Put: a number put into an increasing list. -/
namespace Go.Proofs.YtkcbocoimbhhaaaGreat
open Go.ChangeShapes Go.WideShapes Go.ChangeAt Go.RowKit
set_option linter.unusedVariables false

theorem OwnI.empty (w : World) (base : Nat) (e : TypeId) {g : Nat} (hg : w.heap.size = g) (hb : base ≤ g) : OwnI (w.alloc (.cells #[] e)) base e (.slice (some ⟨g, 0, none⟩) 0 0) [] := by
  subst hg
  refine ⟨by simp, .inr ⟨w.heap.size, 0, #[], by simp, hb, heap_alloc_new w _, by simp, by simp, by simp, by simp⟩⟩
/-- append of a slice of numbers that is known cell by cell -/
theorem append_ints {P : Program} {ops : Array Oper} {rest : List Oper} {o : Oper} {a : Act} {Q : Exit → Act → World → Prop} {t e : TypeId} {bytes : Nat}
    (ht : P.underlying t = some (.slice e)) (hinfo : (P.info? e).map (fun i => (i.zero, i.size, i.bytes)) = some (some (.int .i64 0), 1, bytes)) (hby : bytes ≤ 64)
    (w : World) (hgd : o.guard = none) {s : Operand} (x : Operand) (ho : o.op = .call { callee := .builtin .append, args := #[s, x], argTypes := #[t, t] })
    {base : Nat} {v : Value} {zs : List Int} (hown : OwnI w base e v zs) (hs : a.eval s = v) {g off m c : Nat} (ys : List Int) (hm : ys.length = m) (hx : a.eval x = .slice (some ⟨g, off, none⟩) m c)
    (hcell : ∀ j, j < m → w.cell? ⟨g, off + j, none⟩ = some (.int .i64 (nth ys j))) (hlen : zs.length + m ≤ 1099511627776) (hbase : base ≤ w.heap.size)
    (h : ∀ v' w', OwnI w' base e v' (zs ++ ys) → w.grownBy w' v.ownBlock → wpList P ops Q rest (a.put o.dst v') w') :
    wpList P ops Q (o :: rest) a w := by
  refine append_row ht hinfo rfl (by omega) hby w hgd x ho hown hs (ys.map (Value.int .i64)) hx (by simp [hm]) ?_ ?_ (by simpa using hlen) hbase fun v' w' a1 a2 _ => h v' w' ?_ a2
  · intro j u hj
    have hjl : j < ys.length := by have := (List.getElem?_eq_some_iff.1 hj).1; simpa using this
    rw [List.getElem?_map, nth_get? hjl] at hj
    rw [show (⟨g, off, none⟩ : Addr).add j = ⟨g, off + j, none⟩ from Go.WideShapes.add_plain g off j, hcell j (by omega)]
    exact hj
  · intro u hu
    obtain ⟨z, _, rfl⟩ := List.mem_map.1 hu
    rfl
  · unfold OwnI Own
    rw [List.map_append]
    simpa [hm] using a1
end Go.Proofs.YtkcbocoimbhhaaaGreat

/- Contracts: the numbers of a set in order; the sets of labels that walks lead to (program). -/
namespace Go.Proofs.YtkcbocoimbhhaaaGreat
open Go.ChangeShapes Go.WideShapes Go.ChangeAt Go.RowKit
set_option linter.unusedVariables false

theorem pow64 {y : Nat} (hy : y < 12) : Go.RowKit.wrap64 (2 ^ y) = ((2 ^ y : Nat) : Int) := by
  have hp : 2 ^ y < 4096 := Nat.lt_of_lt_of_le (Nat.pow_lt_pow_right (by decide) hy) (Nat.le_refl _)
  rw [show (2 : Int) ^ y = ((2 ^ y : Nat) : Int) by rw [Int.natCast_pow]; rfl]
  generalize 2 ^ y = q at hp
  unfold Go.RowKit.wrap64; omega

set_option maxHeartbeats 2000000 in
set_option maxRecDepth 100000 in
theorem labelsIn_any (S : Nat) (w : World)  (n : Nat) (f : Nat → Bool) (hS : S = setOf n f) (hn : n ≤ 12) :
    Calls Tryz.prog 50 #[.int .i64 (S : Nat)] w fun e w' => ∃ r, e = .returned (r) ∧ IntS w' w.heap.size w'.heap.size r (ascI n f) ∧ Below w.heap.size w w' := by
  have HS := Lib.hid hS
  have hsl : S < 4096 := by rw [hS]; exact setOf_12 hn f
  clear hS
  go_enter Tryz.func50, Tryz.ntmps50
  go_wp2_with fail
  go_loopw [3, 4] (fun vv av wr => ∃ (a : Nat), a ≤ n ∧ av = .int .i64 a ∧ Hid (OwnI wr w.heap.size 3 vv (ascI a f)) ∧ Hid (Turned w.heap.size w.heap.size w wr)) (fun vv av _ => n - (intOf av).toNat)
  case atStart => exact ⟨0, Nat.zero_le _, rfl, Lib.hid (OwnI.nil _ _ _), Lib.hid (Turned.refl w.heap.size w.heap.size w)⟩
  case round =>
    obtain ⟨a, ha, rfl, HO, HF1⟩ := hrel
    have hs1 := HF1.out.size
    have hdv := powW S a
    obtain ⟨q, HQ⟩ : ∃ q, Hid (S / 2 ^ a = q) := ⟨_, Lib.hid rfl⟩
    have hql : q < 4096 := by rw [← HQ.out]; exact Nat.lt_of_le_of_lt (Nat.div_le_self _ _) hsl
    rw [HQ.out] at hdv
    by_cases hq : q = 0
    case pos =>
      subst hq
      have hE := ascI_end (f := f) (fun j h1 h2 => setOf_end (by rw [← HS.out]; exact HQ.out) h1 h2) ha
      have HE := Lib.hid hE; clear hE
      go_wp2_with fail
      go_ret
      refine ⟨_, rfl, ?_, (HF1.out.below_of (Below.refl _ _) (by omega) (by omega))⟩
      rw [← HE.out]
      exact HO.out.ints
    have hlt : a < n := by
      rcases Nat.lt_or_ge a n with h | h
      · exact h
      · exfalso
        have h2 := setOf_big n f
        rw [← HS.out, ← show a = n by omega, HQ.out] at h2
        exact hq h2
    have hqn : ((q : Int) != 0) = true := by simp; omega
    have hqn2 : ¬ (q : Int) = 0 := by omega
    have hb := andW q hql
    have hbit := setOf_bit f hlt
    rw [← HS.out, HQ.out] at hbit
    rw [hbit] at hb
    have hin := ascI_succ a f
    clear hbit hq
    cases hf : f a with
    | false =>
      rw [hf] at hb hin
      have hb' : bits .and .i64 (q : Int) 1 = 0 := hb
      have HIN := Lib.hid (show ascI (a + 1) f = ascI a f by rw [hin]; simp)
      clear hb hin hf
      go_wp2_with fail
      go_roundw
      case rel => exact ⟨a + 1, by omega, by go_num, Lib.hid (by rw [HIN.out]; exact HO.out), HF1⟩
      case measure => simp [intOf]; omega
    | true =>
      rw [hf] at hb hin
      have hb' : bits .and .i64 (q : Int) 1 = 1 := hb
      have HIN := Lib.hid (show ascI (a + 1) f = ascI a f ++ [(a : Int)] by rw [hin]; simp)
      have hln := ascI_len a f
      have HLT := Lib.hid HO.out.lt
      clear hb hin hf
      go_wp2_with (at_builtin; refine append_int (s := .tmp 16) Tryz.underlying26 Tryz.info3 (by decide) wr rfl _ rfl HO.out a _ rfl (by simp [Act.eval, go_sem]) (by omega) (by omega) ?_; intro v' w' ho' hg' hat')
      go_roundw
      case rel => exact ⟨a + 1, by omega, by go_num, Lib.hid (by rw [HIN.out]; exact ho'), Lib.hid (HF1.out.grown hg' fun g e => .inr (HLT.out g e).1)⟩
      case measure => simp [intOf]; omega

end Go.Proofs.YtkcbocoimbhhaaaGreat

/- Contracts: pairs of labels, labels of sets, sets of labels (reference). -/
namespace Go.Proofs.YtkcbocoimbhhaaaGreat
open Go.ChangeShapes Go.WideShapes Go.ChangeAt Go.RowKit
set_option linter.unusedVariables false

theorem pairs_no {P : PrD} {x y : List Int} {i j : Nat} (hi : i < x.length) (hj : j < y.length) (h : edgeB P (nth x i) (nth y j) = false) : pairsB P x y = false := by
  cases hp : pairsB P x y with
  | false => rfl
  | true =>
    unfold pairsB at hp
    rw [all_nth] at hp
    have h2 := all_nth.1 (hp i hi) j hj
    rw [h] at h2; cases h2
theorem pairs_yes {P : PrD} {x y : List Int} (h : ∀ i, i < x.length → ∀ j, j < y.length → edgeB P (nth x i) (nth y j) = true) : pairsB P x y = true := by
  unfold pairsB
  exact all_nth.2 fun i hi => all_nth.2 fun j hj => h i hi j hj
theorem results_tmp3 {fn : Func} {t u v : Tmp} (h : fn.results = #[.tmp t, .tmp u, .tmp v]) (tmps : Array Value) (P : Program) (w : World) :
    (results fn tmps).run P w = .ok (.tuple #[tmps.getD t undef, tmps.getD u undef, tmps.getD v undef]) w := by
  simp [results, h]
theorem ret_iib {i j : Int} {b c : Bool} (h : b = c) : Ending.returned (.tuple #[.int .i64 i, .int .i64 j, .bool b]) = .returned (.tuple #[.int .i64 i, .int .i64 j, .bool c]) := by rw [h]

set_option maxHeartbeats 4000000 in
set_option maxRecDepth 100000 in
theorem zeBad_any (v1 : Value) (P : PrD) (lo1 hi1 : Nat) (v2 : Value) (x : List Int) (lo2 hi2 : Nat) (v3 : Value) (y : List Int) (lo3 hi3 : Nat) (w : World) (h1 : Pro w lo1 hi1 v1 P) (hh1 : hi1 ≤ w.heap.size) (h2 : IntS w lo2 hi2 v2 x) (hh2 : hi2 ≤ w.heap.size) (h3 : IntS w lo3 hi3 v3 y) (hh3 : hi3 ≤ w.heap.size)  :
    Calls Tryz.prog 108 #[v1, v2, v3] w fun e w' => ∃ i j : Int, e = .returned (.tuple #[.int .i64 i, .int .i64 j, .bool (!pairsB P x y)]) ∧ Below w.heap.size w w' := by
  have F1 := Lib.hid h1
  obtain ⟨A1, c1, A1', c1', rfl, hc1, hd1⟩ := h1.parts
  clear h1
  have F2 := Lib.hid h2
  obtain ⟨A2, c2, rfl, hc2, hd2⟩ := h2.dims
  clear h2
  have F3 := Lib.hid h3
  obtain ⟨A3, c3, rfl, hc3, hd3⟩ := h3.dims
  clear h3
  obtain ⟨WA, HWA⟩ : ∃ W, Hid (W = (w.alloc (.cells #[.int .i64 P.L, .int .i64 P.D, .slice A1 P.nodes.length c1, .slice A1' P.edges.length c1'] 34))) := ⟨_, Lib.hid rfl⟩
  have hbA : Below w.heap.size w WA := by rw [HWA.out]; exact ((Below.refl _ _).alloc (Nat.le_refl _) _)
  have hsA : w.heap.size + 1 ≤ WA.heap.size := by rw [HWA.out]; simp; try omega
  have bx1 : BoxN WA (w.heap.size) #[.int .i64 P.L, .int .i64 P.D, .slice A1 P.nodes.length c1, .slice A1' P.edges.length c1'] 34 := by rw [HWA.out]; exact (BoxN.new' _ _ _ (by simp))
  have G1 := Lib.hid (Pro.below F1.out hbA hh1); clear F1
  have G2 := Lib.hid (IntS.below F2.out hbA hh2); clear F2
  have G3 := Lib.hid (IntS.below F3.out hbA hh3); clear F3
  go_enter Tryz.func108, Tryz.ntmps108
  go_upto_region 1 with (fail)
  rw [← HWA.out]; clear HWA
  go_wp2_with fail
  go_loopw [15] (fun iv wr => ∃ (i : Nat), i ≤ x.length ∧ iv = .int .i64 i ∧ Hid (∀ k, k < i → ∀ j, j < y.length → edgeB P (nth x k) (nth y j) = true) ∧ Hid (Turned WA.heap.size WA.heap.size WA wr)) (fun iv _ => x.length - (intOf iv).toNat)
  case atStart => exact ⟨0, Nat.zero_le _, rfl, Lib.hid (fun k hk => absurd hk (by omega)), Lib.hid (Turned.refl WA.heap.size WA.heap.size WA)⟩
  case round =>
    obtain ⟨i, hi, rfl, HN, HF1⟩ := hrel
    have hs1 := HF1.out.size
    obtain ⟨wq, rfl⟩ : ∃ wq : World, wq = wr := ⟨_, rfl⟩
    by_cases hlt : i < x.length
    case neg =>
      have HR := Lib.hid (pairs_yes fun k hk j hj => HN.out k (by omega) j hj)
      go_wp2_with fail
      ((try simp only [Exit.inBlock, Exit.then]); refine bodyPost_ret (results_tmp3 rfl _ _ _) rfl ?_)
      exact ⟨0, 0, ret_iib (by rw [HR.out]; rfl), (HF1.out.below_of hbA (by omega) (by omega))⟩
    obtain ⟨ba, oa, rfl, _, hba', xa, _⟩ := (IntS.turned G2.out HF1.out (by omega) (by omega)).opened hlt
    obtain ⟨a, HA⟩ : ∃ z, Hid (nth x i = z) := ⟨_, Lib.hid rfl⟩
    rw [HA.out] at xa
    have hii : (i : Int) < x.length := by omega
    go_wp2_with fail
    clear xa
    go_loopw [22] (fun jv wr => ∃ (j : Nat), j ≤ y.length ∧ jv = .int .i64 j ∧ Hid (∀ k, k < j → edgeB P a (nth y k) = true) ∧ Hid (Turned WA.heap.size WA.heap.size WA wr)) (fun jv _ => y.length - (intOf jv).toNat)
    case atStart => exact ⟨0, Nat.zero_le _, rfl, Lib.hid (fun k hk => absurd hk (by omega)), HF1⟩
    case round =>
      clear HF1
      obtain ⟨j, hj, rfl, HM, HF2⟩ := hrel
      have hs2 := HF2.out.size
      obtain ⟨wi, rfl⟩ : ∃ wi : World, wi = wr := ⟨_, rfl⟩
      by_cases hjl : j < y.length
      case neg =>
        have HNN := Lib.hid (below_succY (p := fun k => ∀ j, j < y.length → edgeB P (nth x k) (nth y j) = true) HN.out (fun j' hj' => by rw [HA.out]; exact HM.out j' (by omega)))
        go_wp2_with fail
        go_roundw
        case rel => exact ⟨i + 1, by omega, by go_num, HNN, HF2⟩
        case measure => simp [intOf]; omega
      obtain ⟨bb, ob, rfl, _, hbb', xb, _⟩ := (IntS.turned G3.out HF2.out (by omega) (by omega)).opened hjl
      obtain ⟨b, HB⟩ : ∃ z, Hid (nth y j = z) := ⟨_, Lib.hid rfl⟩
      rw [HB.out] at xb
      have hji : (j : Int) < y.length := by omega
      have kbx1_0 : wi.cell? ⟨w.heap.size, 0, none⟩ = some (.int .i64 P.L) := (HF2.out.boxN bx1 (by omega)).cell 0 (by simp)
      have kbx1_1 : wi.cell? ⟨w.heap.size, 1, none⟩ = some (.int .i64 P.D) := (HF2.out.boxN bx1 (by omega)).cell 1 (by simp)
      have kbx1_2 : wi.cell? ⟨w.heap.size, 2, none⟩ = some (.slice A1 P.nodes.length c1) := (HF2.out.boxN bx1 (by omega)).cell 2 (by simp)
      have kbx1_3 : wi.cell? ⟨w.heap.size, 3, none⟩ = some (.slice A1' P.edges.length c1') := (HF2.out.boxN bx1 (by omega)).cell 3 (by simp)
      go_wp2_with fail
      clear xb kbx1_0 kbx1_1 kbx1_2 kbx1_3
      refine (prEdge_any _ P _ _ a b _ (Pro.turned G1.out HF2.out (by omega) (by omega)) (by omega)).mono ?_
      rintro e W3 ⟨rfl, hb3⟩
      have hg3 := grown_below hb3; clear hb3
      have hs3 := hg3.size
      have HF3 := Lib.hid (HF2.out.still hg3); clear HF2
      cases he : edgeB P a b with
      | false =>
        have HR := Lib.hid (pairs_no (P := P) hlt hjl (by rw [HA.out, HB.out]; exact he))
        clear he
        go_wp2_with fail
        ((try simp only [Exit.inBlock, Exit.then]); refine bodyPost_ret (results_tmp3 rfl _ _ _) rfl ?_)
        exact ⟨_, _, ret_iib (by rw [HR.out]; rfl), (HF3.out.below_of hbA (by omega) (by omega))⟩
      | true =>
        have HMM := Lib.hid (below_succY (p := fun k => edgeB P a (nth y k) = true) HM.out (by rw [HB.out]; exact he))
        clear he
        go_wp2_with fail
        go_roundw
        case rel => exact ⟨j + 1, by omega, by go_num, HMM, HF3⟩
        case measure => simp [intOf]; omega

set_option maxHeartbeats 2000000 in
set_option maxRecDepth 100000 in
theorem zePairs_any (v1 : Value) (P : PrD) (lo1 hi1 : Nat) (v2 : Value) (x : List Int) (lo2 hi2 : Nat) (v3 : Value) (y : List Int) (lo3 hi3 : Nat) (w : World) (h1 : Pro w lo1 hi1 v1 P) (hh1 : hi1 ≤ w.heap.size) (h2 : IntS w lo2 hi2 v2 x) (hh2 : hi2 ≤ w.heap.size) (h3 : IntS w lo3 hi3 v3 y) (hh3 : hi3 ≤ w.heap.size)  :
    Calls Tryz.prog 96 #[v1, v2, v3] w fun e w' => e = .returned (.bool (pairsB P x y)) ∧ Below w.heap.size w w' := by
  have F1 := Lib.hid h1
  obtain ⟨A1, c1, A1', c1', rfl, hc1, hd1⟩ := h1.parts
  clear h1
  have F2 := Lib.hid h2
  obtain ⟨A2, c2, rfl, hc2, hd2⟩ := h2.dims
  clear h2
  have F3 := Lib.hid h3
  obtain ⟨A3, c3, rfl, hc3, hd3⟩ := h3.dims
  clear h3
  obtain ⟨WA, HWA⟩ : ∃ W, Hid (W = (w.alloc (.cells #[.int .i64 P.L, .int .i64 P.D, .slice A1 P.nodes.length c1, .slice A1' P.edges.length c1'] 34))) := ⟨_, Lib.hid rfl⟩
  have hbA : Below w.heap.size w WA := by rw [HWA.out]; exact ((Below.refl _ _).alloc (Nat.le_refl _) _)
  have hsA : w.heap.size + 1 ≤ WA.heap.size := by rw [HWA.out]; simp; try omega
  have bx1 : BoxN WA (w.heap.size) #[.int .i64 P.L, .int .i64 P.D, .slice A1 P.nodes.length c1, .slice A1' P.edges.length c1'] 34 := by rw [HWA.out]; exact (BoxN.new' _ _ _ (by simp))
  have G1 := Lib.hid (Pro.below F1.out hbA hh1); clear F1
  have G2 := Lib.hid (IntS.below F2.out hbA hh2); clear F2
  have G3 := Lib.hid (IntS.below F3.out hbA hh3); clear F3
  go_enter Tryz.func96, Tryz.ntmps96
  go_upto_region 1 with (fail)
  rw [← HWA.out]; clear HWA
  have kbx1_0 : WA.cell? ⟨w.heap.size, 0, none⟩ = some (.int .i64 P.L) := bx1.cell 0 (by simp)
  have kbx1_1 : WA.cell? ⟨w.heap.size, 1, none⟩ = some (.int .i64 P.D) := bx1.cell 1 (by simp)
  have kbx1_2 : WA.cell? ⟨w.heap.size, 2, none⟩ = some (.slice A1 P.nodes.length c1) := bx1.cell 2 (by simp)
  have kbx1_3 : WA.cell? ⟨w.heap.size, 3, none⟩ = some (.slice A1' P.edges.length c1') := bx1.cell 3 (by simp)
  go_wp2_with fail
  clear kbx1_0 kbx1_1 kbx1_2 kbx1_3
  refine (zeBad_any _ P _ _ _ x _ _ _ y _ _ _ G1.out (by omega) G2.out (by omega) G3.out (by omega)).mono ?_
  rintro e W1 ⟨i, j, rfl, hb1⟩
  have hg1 := grown_below hb1; clear hb1
  have hs1 := hg1.size
  have HF1 := Lib.hid ((Turned.refl WA.heap.size WA.heap.size WA).still hg1)
  obtain ⟨z, HZ⟩ : ∃ z, Hid (pairsB P x y = z) := ⟨_, Lib.hid rfl⟩
  rw [HZ.out]
  go_wp2_with fail
  go_ret
  exact ⟨ret_bool HZ.out.symm, (HF1.out.below_of hbA (by omega) (by omega))⟩

theorem tmodT (a b : Nat) : Int.tmod (a : Int) (b : Int) = ((a % b : Nat) : Int) := (Int.ofNat_tmod a b).symm
theorem tdivT (a b : Nat) : Int.tdiv (a : Int) (b : Int) = ((a / b : Nat) : Int) := (Int.ofNat_tdiv a b).symm

set_option maxHeartbeats 2000000 in
set_option maxRecDepth 100000 in
theorem nuBit_any (n : Nat) (k : Nat) (w : World)  (v : Nat) (hn : n < 1000000) (hk : k < 64) (hv : n / 2 ^ k % 2 = v) :
    Calls Tryz.prog 74 #[.int .i64 (n : Nat), .int .i64 (k : Nat)] w fun e w' => e = .returned (.int .i64 (v : Nat)) ∧ w = w' := by
  go_enter Tryz.func74, Tryz.ntmps74
  have HV := Lib.hid hv; clear hv
  go_wp2_with fail
  go_loop [0, 1] (fun nv kv => ∃ (m j : Nat), m < 1000000 ∧ j ≤ k ∧ nv = .int .i64 m ∧ kv = .int .i64 j ∧ Hid (m / 2 ^ j = n / 2 ^ k)) (fun nv kv => (intOf kv).toNat)
  case atStart => exact ⟨n, k, hn, Nat.le_refl _, rfl, rfl, Lib.hid rfl⟩
  case round =>
    obtain ⟨m, j, hm, hj, rfl, rfl, HM⟩ := hrel
    by_cases hj0 : j = 0
    case pos =>
      subst hj0
      have hmm : m = n / 2 ^ k := by have := HM.out; simpa using this
      obtain ⟨z, HZ⟩ : ∃ z, Hid (m % 2 = z) := ⟨_, Lib.hid rfl⟩
      have htm : Int.tmod (m : Int) 2 = (z : Int) := by rw [← HZ.out]; exact tmodT m 2
      have hem : (m : Int) % 2 = (z : Int) := by have := HZ.out; omega
      have HMM := Lib.hid hmm; clear hmm
      go_wp2_with fail
      go_ret
      exact ⟨ret_int (by rw [← HV.out, ← HMM.out, HZ.out]), rfl⟩
    obtain ⟨q, HQ⟩ : ∃ q, Hid (j = q + 1) := ⟨j - 1, Lib.hid (by omega)⟩
    have hji : (0 : Int) < (j : Int) := by omega
    have hwj : IntKind.i64.wrap ((j : Int) - 1) = (q : Int) := by rw [IntWalk.i64_in _ (by omega)]; have := HQ.out; omega
    have hjq : (j : Int) - 1 = (q : Int) := by have := HQ.out; omega
    obtain ⟨h, HH⟩ : ∃ h, Hid (m / 2 = h) := ⟨_, Lib.hid rfl⟩
    have htd : Int.tdiv (m : Int) 2 = (h : Int) := by rw [← HH.out]; exact tdivT m 2
    have hed : (m : Int) / 2 = (h : Int) := by have := HH.out; omega
    have HN := Lib.hid (show h / 2 ^ q = n / 2 ^ k by rw [← HM.out, ← HH.out, HQ.out, Nat.pow_succ, Nat.mul_comm, Nat.div_div_eq_div_mul])
    have hhm : h < 1000000 := by have := HH.out; omega
    go_wp2_with fail
    go_round
    case rel => exact ⟨h, q, hhm, by have := HQ.out; omega, by first | rfl | (congr 1; omega), by first | rfl | (congr 1; omega), HN⟩
    case measure => have := HQ.out; simp [intOf]; omega

set_option maxHeartbeats 1000000 in
set_option maxRecDepth 100000 in
theorem soIn_any (n : Nat) (k : Nat) (w : World)  (hn : n < 1000000) (hk : k < 64) :
    Calls Tryz.prog 46 #[.int .i64 (n : Nat), .int .i64 (k : Nat)] w fun e w' => e = .returned (.bool (n.testBit k)) ∧ w = w' := by
  go_enter Tryz.func46, Tryz.ntmps46
  go_wp2_with fail
  refine (nuBit_any n k _ (n / 2 ^ k % 2) hn hk rfl).mono ?_
  rintro e w' ⟨rfl, rfl⟩
  have hb := Nat.testBit_eq_decide_div_mod_eq (x := n) (i := k)
  have h2 : n / 2 ^ k % 2 < 2 := Nat.mod_lt _ (by decide)
  obtain ⟨z, HZ⟩ : ∃ z, Hid (n / 2 ^ k % 2 = z) := ⟨_, Lib.hid rfl⟩
  rw [HZ.out] at hb h2
  rw [HZ.out]
  have HB := Lib.hid hb; clear hb
  by_cases h1 : z = 1
  · subst h1
    go_wp2_with fail
    go_ret
    exact ⟨ret_bool (by rw [HB.out]; rfl), rfl⟩
  · obtain rfl : z = 0 := by omega
    go_wp2_with fail
    go_ret
    exact ⟨ret_bool (by rw [HB.out]; rfl), rfl⟩

set_option maxHeartbeats 4000000 in
set_option maxRecDepth 100000 in
theorem zeLabels_any (v1 : Value) (P : PrD) (lo1 hi1 : Nat) (mask : Nat) (w : World) (h1 : Pro w lo1 hi1 v1 P) (hh1 : hi1 ≤ w.heap.size) (n : Nat) (hL : P.L = (n : Nat)) (n8 : n ≤ 8) (hm : mask < 1000000) :
    Calls Tryz.prog 70 #[v1, .int .i64 (mask : Nat)] w fun e w' => ∃ r, e = .returned (r) ∧ IntS w' w.heap.size w'.heap.size r (ascI n (fun a => mask.testBit a)) ∧ Below w.heap.size w w' := by
  have HL8 := Lib.hid hL; clear hL
  skip
  have F1 := Lib.hid h1
  obtain ⟨A1, c1, A1', c1', rfl, hc1, hd1⟩ := h1.parts
  clear h1
  obtain ⟨WA, HWA⟩ : ∃ W, Hid (W = (w.alloc (.cells #[.int .i64 P.L, .int .i64 P.D, .slice A1 P.nodes.length c1, .slice A1' P.edges.length c1'] 34))) := ⟨_, Lib.hid rfl⟩
  have hbA : Below w.heap.size w WA := by rw [HWA.out]; exact ((Below.refl _ _).alloc (Nat.le_refl _) _)
  have hsA : w.heap.size + 1 ≤ WA.heap.size := by rw [HWA.out]; simp; try omega
  have bx1 : BoxN WA (w.heap.size) #[.int .i64 P.L, .int .i64 P.D, .slice A1 P.nodes.length c1, .slice A1' P.edges.length c1'] 34 := by rw [HWA.out]; exact (BoxN.new' _ _ _ (by simp))
  have G1 := Lib.hid (Pro.below F1.out hbA hh1); clear F1
  go_enter Tryz.func70, Tryz.ntmps70
  go_upto_region 1 with (fail)
  rw [← HWA.out]; clear HWA
  have kbx1_0 : WA.cell? ⟨w.heap.size, 0, none⟩ = some (.int .i64 P.L) := bx1.cell 0 (by simp)
  have kbx1_1 : WA.cell? ⟨w.heap.size, 1, none⟩ = some (.int .i64 P.D) := bx1.cell 1 (by simp)
  have kbx1_2 : WA.cell? ⟨w.heap.size, 2, none⟩ = some (.slice A1 P.nodes.length c1) := bx1.cell 2 (by simp)
  have kbx1_3 : WA.cell? ⟨w.heap.size, 3, none⟩ = some (.slice A1' P.edges.length c1') := bx1.cell 3 (by simp)
  go_wp2_with fail
  clear kbx1_0 kbx1_1 kbx1_2 kbx1_3
  go_loopw [5, 6] (fun vv av wr => ∃ (a : Nat), a ≤ n ∧ av = .int .i64 a ∧ Hid (OwnI wr WA.heap.size 3 vv (ascI a (fun a => mask.testBit a))) ∧ Hid (Turned WA.heap.size WA.heap.size WA wr)) (fun vv av _ => n - (intOf av).toNat)
  case atStart => exact ⟨0, Nat.zero_le _, rfl, Lib.hid (OwnI.nil _ _ _), Lib.hid (Turned.refl WA.heap.size WA.heap.size WA)⟩
  case round =>
    obtain ⟨a, ha, rfl, HO, HF1⟩ := hrel
    have hs1 := HF1.out.size
    obtain ⟨wq, rfl⟩ : ∃ wq : World, wq = wr := ⟨_, rfl⟩
    have kbx1_0 : wq.cell? ⟨w.heap.size, 0, none⟩ = some (.int .i64 P.L) := (HF1.out.boxN bx1 (by omega)).cell 0 (by simp)
    have kbx1_1 : wq.cell? ⟨w.heap.size, 1, none⟩ = some (.int .i64 P.D) := (HF1.out.boxN bx1 (by omega)).cell 1 (by simp)
    have kbx1_2 : wq.cell? ⟨w.heap.size, 2, none⟩ = some (.slice A1 P.nodes.length c1) := (HF1.out.boxN bx1 (by omega)).cell 2 (by simp)
    have kbx1_3 : wq.cell? ⟨w.heap.size, 3, none⟩ = some (.slice A1' P.edges.length c1') := (HF1.out.boxN bx1 (by omega)).cell 3 (by simp)
    by_cases hlt : a < n
    case neg =>
      obtain rfl : n = a := by omega
      have hai : ¬ (n : Int) < P.L := by have := HL8.out; omega
      obtain ⟨Ao, co, rfl, hco, hdo⟩ := HO.out.ints.dims
      go_wp2_with fail
      go_ret
      exact ⟨_, rfl, HO.out.ints.mono (by omega) (Nat.le_refl _), (HF1.out.below_of hbA (by omega) (by omega))⟩
    have hai : (a : Int) < P.L := by have := HL8.out; omega
    go_wp2_with fail
    clear kbx1_0 kbx1_1 kbx1_2 kbx1_3
    refine (soIn_any mask a _ hm (by omega)).mono ?_
    rintro e w' ⟨rfl, rfl⟩
    obtain ⟨z, HZ⟩ : ∃ z, Hid (mask.testBit a = z) := ⟨_, Lib.hid rfl⟩
    have HS := Lib.hid (ascI_succ a (fun a => mask.testBit a))
    rw [HZ.out] at HS
    rw [HZ.out]
    have HLL := Lib.hid (ascI_len a (fun a => mask.testBit a))
    obtain ⟨l, HL⟩ : ∃ l, Hid (ascI a (fun a => mask.testBit a) = l) := ⟨_, Lib.hid rfl⟩
    rw [HL.out] at HO HLL
    have hll := HLL.out
    have HLT := Lib.hid HO.out.lt
    cases z with
    | false =>
      have HSN := Lib.hid (show ascI (a + 1) (fun a => mask.testBit a) = l by rw [HS.out, HL.out]; simp)
      go_wp2_with fail
      go_roundw
      case rel => exact ⟨a + 1, by omega, by go_num, Lib.hid (by rw [HSN.out]; exact HO.out), HF1⟩
      case measure => simp [intOf]; omega
    | true =>
      have HSN := Lib.hid (show ascI (a + 1) (fun a => mask.testBit a) = l ++ [(a : Int)] by rw [HS.out, HL.out]; simp)
      go_wp2_with (at_builtin; refine append_int (s := .tmp 16) Tryz.underlying26 Tryz.info3 (by decide) wq rfl _ rfl HO.out a _ rfl (by simp [Act.eval, go_sem]) (by omega) (by omega) ?_; intro v' w' ho' hg' hat')
      go_roundw
      case rel => exact ⟨a + 1, by omega, by go_num, Lib.hid (by rw [HSN.out]; exact ho'), Lib.hid (HF1.out.grown hg' fun g e => .inr (HLT.out g e).1)⟩
      case measure => simp [intOf]; omega

set_option maxHeartbeats 4000000 in
set_option maxRecDepth 100000 in
theorem zeAnswer_any (v1 : Value) (P : PrD) (lo1 hi1 : Nat) (v2 : Value) (out : List Int) (lo2 hi2 : Nat) (w : World) (h1 : Pro w lo1 hi1 v1 P) (hh1 : hi1 ≤ w.heap.size) (h2 : IntS w lo2 hi2 v2 out) (hh2 : hi2 ≤ w.heap.size) (n : Nat) (hL : P.L = (n : Nat)) (n8 : n ≤ 8) :
    Calls Tryz.prog 71 #[v1, v2] w fun e w' => ∃ r, e = .returned (r) ∧ IntS w' w.heap.size w'.heap.size r (ascI n (fun b => pairsB P out [(b : Int)])) ∧ Below w.heap.size w w' := by
  have HL8 := Lib.hid hL; clear hL
  skip
  have F1 := Lib.hid h1
  obtain ⟨A1, c1, A1', c1', rfl, hc1, hd1⟩ := h1.parts
  clear h1
  have F2 := Lib.hid h2
  obtain ⟨A2, c2, rfl, hc2, hd2⟩ := h2.dims
  clear h2
  obtain ⟨WA, HWA⟩ : ∃ W, Hid (W = (w.alloc (.cells #[.int .i64 P.L, .int .i64 P.D, .slice A1 P.nodes.length c1, .slice A1' P.edges.length c1'] 34))) := ⟨_, Lib.hid rfl⟩
  have hbA : Below w.heap.size w WA := by rw [HWA.out]; exact ((Below.refl _ _).alloc (Nat.le_refl _) _)
  have hsA : w.heap.size + 1 ≤ WA.heap.size := by rw [HWA.out]; simp; try omega
  have bx1 : BoxN WA (w.heap.size) #[.int .i64 P.L, .int .i64 P.D, .slice A1 P.nodes.length c1, .slice A1' P.edges.length c1'] 34 := by rw [HWA.out]; exact (BoxN.new' _ _ _ (by simp))
  have G1 := Lib.hid (Pro.below F1.out hbA hh1); clear F1
  have G2 := Lib.hid (IntS.below F2.out hbA hh2); clear F2
  go_enter Tryz.func71, Tryz.ntmps71
  go_upto_region 1 with (fail)
  rw [← HWA.out]; clear HWA
  have kbx1_0 : WA.cell? ⟨w.heap.size, 0, none⟩ = some (.int .i64 P.L) := bx1.cell 0 (by simp)
  have kbx1_1 : WA.cell? ⟨w.heap.size, 1, none⟩ = some (.int .i64 P.D) := bx1.cell 1 (by simp)
  have kbx1_2 : WA.cell? ⟨w.heap.size, 2, none⟩ = some (.slice A1 P.nodes.length c1) := bx1.cell 2 (by simp)
  have kbx1_3 : WA.cell? ⟨w.heap.size, 3, none⟩ = some (.slice A1' P.edges.length c1') := bx1.cell 3 (by simp)
  go_wp2_with fail
  clear kbx1_0 kbx1_1 kbx1_2 kbx1_3
  go_loopw [5, 6] (fun vv av wr => ∃ (a : Nat), a ≤ n ∧ av = .int .i64 a ∧ Hid (OwnI wr WA.heap.size 3 vv (ascI a (fun b => pairsB P out [(b : Int)]))) ∧ Hid (Turned WA.heap.size WA.heap.size WA wr)) (fun vv av _ => n - (intOf av).toNat)
  case atStart => exact ⟨0, Nat.zero_le _, rfl, Lib.hid (OwnI.nil _ _ _), Lib.hid (Turned.refl WA.heap.size WA.heap.size WA)⟩
  case round =>
    obtain ⟨a, ha, rfl, HO, HF1⟩ := hrel
    have hs1 := HF1.out.size
    obtain ⟨wq, rfl⟩ : ∃ wq : World, wq = wr := ⟨_, rfl⟩
    have kbx1_0 : wq.cell? ⟨w.heap.size, 0, none⟩ = some (.int .i64 P.L) := (HF1.out.boxN bx1 (by omega)).cell 0 (by simp)
    have kbx1_1 : wq.cell? ⟨w.heap.size, 1, none⟩ = some (.int .i64 P.D) := (HF1.out.boxN bx1 (by omega)).cell 1 (by simp)
    have kbx1_2 : wq.cell? ⟨w.heap.size, 2, none⟩ = some (.slice A1 P.nodes.length c1) := (HF1.out.boxN bx1 (by omega)).cell 2 (by simp)
    have kbx1_3 : wq.cell? ⟨w.heap.size, 3, none⟩ = some (.slice A1' P.edges.length c1') := (HF1.out.boxN bx1 (by omega)).cell 3 (by simp)
    by_cases hlt : a < n
    case neg =>
      obtain rfl : n = a := by omega
      have hai : ¬ (n : Int) < P.L := by have := HL8.out; omega
      obtain ⟨Ao, co, rfl, hco, hdo⟩ := HO.out.ints.dims
      go_wp2_with fail
      go_ret
      exact ⟨_, rfl, HO.out.ints.mono (by omega) (Nat.le_refl _), (HF1.out.below_of hbA (by omega) (by omega))⟩
    have hai : (a : Int) < P.L := by have := HL8.out; omega
    go_wp2_with fail
    clear kbx1_0 kbx1_1 kbx1_2 kbx1_3
    refine nameK ?_
    intro W2 HW2
    have hg2 : wq.grownBy W2 none := by rw [HW2.out]; exact grown_alloc _ _
    have hs2 := hg2.size
    have HF2 := Lib.hid (HF1.out.still hg2); clear HF1
    have O2 := Lib.hid (OwnI.still HO.out hg2); clear HO
    have HB1 := Lib.hid (show IntS W2 wq.heap.size (wq.heap.size + 1) (.slice (some ⟨wq.heap.size, 0, none⟩) 1 1) [(a : Int)] by rw [HW2.out]; exact IntS.newN wq [(a : Int)] _ rfl (by simp))
    have hzb : wq.heap.size + 1 ≤ W2.heap.size := by rw [HW2.out]; simp
    clear HW2
    refine (zePairs_any _ P _ _ _ out _ _ _ [(a : Int)] _ _ _ (Pro.turned G1.out HF2.out (by omega) (by omega)) (by omega) (IntS.turned G2.out HF2.out (by omega) (by omega)) (by omega) HB1.out (by omega)).mono ?_
    rintro e W3 ⟨rfl, hb3⟩
    have hg3 := grown_below hb3; clear hb3
    have hs3 := hg3.size
    have HF3 := Lib.hid (HF2.out.still hg3); clear HF2
    have O3 := Lib.hid (OwnI.still O2.out hg3); clear O2
    obtain ⟨z, HZ⟩ : ∃ z, Hid (pairsB P out [(a : Int)] = z) := ⟨_, Lib.hid rfl⟩
    have HS := Lib.hid (ascI_succ a (fun b => pairsB P out [(b : Int)]))
    rw [HZ.out] at HS
    rw [HZ.out]
    have HLL := Lib.hid (ascI_len a (fun b => pairsB P out [(b : Int)]))
    obtain ⟨l, HL⟩ : ∃ l, Hid (ascI a (fun b => pairsB P out [(b : Int)]) = l) := ⟨_, Lib.hid rfl⟩
    rw [HL.out] at O3 HLL
    have hll := HLL.out
    have HLT := Lib.hid O3.out.lt
    cases z with
    | false =>
      have HSN := Lib.hid (show ascI (a + 1) (fun b => pairsB P out [(b : Int)]) = l by rw [HS.out, HL.out]; simp)
      go_wp2_with fail
      go_roundw
      case rel => exact ⟨a + 1, by omega, by go_num, Lib.hid (by rw [HSN.out]; exact O3.out), HF3⟩
      case measure => simp [intOf]; omega
    | true =>
      have HSN := Lib.hid (show ascI (a + 1) (fun b => pairsB P out [(b : Int)]) = l ++ [(a : Int)] by rw [HS.out, HL.out]; simp)
      go_wp2_with (at_builtin; refine append_int (s := .tmp 18) Tryz.underlying26 Tryz.info3 (by decide) W3 rfl _ rfl O3.out a _ rfl (by simp [Act.eval, go_sem]) (by omega) (by omega) ?_; intro v' w' ho' hg' hat')
      go_roundw
      case rel => exact ⟨a + 1, by omega, by go_num, Lib.hid (by rw [HSN.out]; exact ho'), Lib.hid (HF3.out.grown hg' fun g e => .inr (HLT.out g e).1)⟩
      case measure => simp [intOf]; omega

def maskP (n : Nat) (f : Nat → Bool) (k : Nat) : Nat := (((ascN n f).take k).map fun x => 2 ^ x).sum
theorem maskP_zero (n : Nat) (f : Nat → Bool) : maskP n f 0 = 0 := by simp [maskP]
theorem maskP_succ {n k x : Nat} {f : Nat → Bool} (h : (ascN n f)[k]? = some x) : maskP n f (k + 1) = maskP n f k + 2 ^ x := by
  unfold maskP; rw [List.take_add_one, h, List.map_append, List.sum_append]; simp
theorem sum_asc (n : Nat) (f : Nat → Bool) : ((ascN n f).map fun x => 2 ^ x).sum = setOf n f := by
  induction n with
  | zero => rfl
  | succ n ih => rw [ascN_succ, List.map_append, List.sum_append, ih, show setOf (n + 1) f = setOf n f + if f n = true then 2 ^ n else 0 from rfl]; cases f n <;> simp
theorem maskP_full {n k : Nat} {f : Nat → Bool} (h : (ascI n f).length ≤ k) : maskP n f k = setOf n f := by
  unfold maskP
  rw [List.take_of_length_le (by unfold ascI at h; simpa using h)]
  exact sum_asc n f
theorem maskP_le (n : Nat) (f : Nat → Bool) (k : Nat) : maskP n f k ≤ setOf n f := by
  rw [← sum_asc n f]
  unfold maskP
  have h : ((ascN n f).map fun x => 2 ^ x).sum = (((ascN n f).take k).map fun x => 2 ^ x).sum + (((ascN n f).drop k).map fun x => 2 ^ x).sum := by
    rw [← List.sum_append, ← List.map_append, List.take_append_drop]
  omega

set_option maxHeartbeats 4000000 in
set_option maxRecDepth 100000 in
theorem zeMask_any (v1 : Value) (l : List Int) (lo1 hi1 : Nat) (w : World) (h1 : IntS w lo1 hi1 v1 l) (hh1 : hi1 ≤ w.heap.size) (n : Nat) (f : Nat → Bool) (hl : l = ascI n f) (n8 : n ≤ 8) :
    Calls Tryz.prog 24 #[v1] w fun e w' => e = .returned (.int .i64 (setOf n f : Nat)) ∧ w = w' := by
  have F1 := Lib.hid h1
  obtain ⟨A1, c1, rfl, hc1, hd1⟩ := h1.dims
  clear h1
  go_enter Tryz.func24, Tryz.ntmps24
  subst hl
  obtain ⟨ll, HLL⟩ : ∃ x, Hid ((ascI n f).length = x) := ⟨_, Lib.hid rfl⟩
  rw [HLL.out] at F1 hc1
  try rw [HLL.out]
  have hsl := setOf_lt n f
  have hp8 : 2 ^ n ≤ 2 ^ 8 := Nat.pow_le_pow_right (by decide) n8
  have hs256 : setOf n f < 256 := by omega
  clear hsl hp8
  go_wp2_with fail
  go_loop [3, 8] (fun mv iv => ∃ (k s : Nat), k ≤ ll ∧ iv = .int .i64 k ∧ mv = .int .i64 s ∧ Hid (s = maskP n f k)) (fun mv iv => ll - (intOf iv).toNat)
  case atStart => exact ⟨0, 0, Nat.zero_le _, rfl, rfl, Lib.hid (maskP_zero n f).symm⟩
  case round =>
    obtain ⟨k, s, hk, rfl, rfl, HS⟩ := hrel
    by_cases hlt : k < ll
    case neg =>
      obtain rfl : k = ll := by omega
      have HR := Lib.hid (show s = setOf n f by rw [HS.out]; exact maskP_full (by rw [HLL.out]; exact Nat.le_refl _))
      go_wp2_with fail
      go_ret
      exact ⟨ret_int (by rw [HR.out]), rfl⟩
    have hki : (k : Int) < ll := by omega
    obtain ⟨x, ex, hx, _, hxx⟩ := ascI_at (n := n) (f := f) (k := k) (by rw [HLL.out]; exact hlt)
    obtain ⟨b1, o1, rfl, _, hb1, x1, _⟩ := F1.out.opened (j := k) (by rw [HLL.out]; exact hlt)
    rw [ex] at x1
    have hsn := maskP_succ hxx
    rw [← HS.out] at hsn
    have hle := maskP_le n f (k + 1)
    have hx12 : x < 12 := by omega
    have hpw := pow64 hx12
    obtain ⟨p, HP⟩ : ∃ p, Hid (2 ^ x = p) := ⟨_, Lib.hid rfl⟩
    rw [HP.out] at hsn hpw
    have hsp : s + p < 256 := by omega
    have HSN := Lib.hid hsn
    have hux : IntKind.u64.wrap (x : Int) = (x : Int) := IntWalk.u64_in _ (by omega)
    have hws : IntKind.i64.wrap ((s : Int) + (p : Int)) = ((s + p : Nat) : Int) := by rw [IntWalk.i64_in _ (by omega)]; omega
    obtain ⟨q, HQ⟩ : ∃ q, Hid (s + p = q) := ⟨_, Lib.hid rfl⟩
    rw [HQ.out] at hws
    clear hsn hle ex hxx
    go_wp2_with fail
    go_round
    case rel => exact ⟨k + 1, q, by omega, by go_num, rfl, Lib.hid (by rw [HSN.out, HQ.out])⟩
    case measure => simp [intOf]; omega

end Go.Proofs.YtkcbocoimbhhaaaGreat

/- Contracts: whether labels are a configuration; pairs of labels (program). -/
namespace Go.Proofs.YtkcbocoimbhhaaaGreat
open Go.ChangeShapes Go.WideShapes Go.ChangeAt Go.RowKit
set_option linter.unusedVariables false

theorem cmpL_ltP (a b : List Int) : cmpL a b < 0 ↔ ltL a b = true := by
  unfold cmpL
  by_cases h : ltL a b = true
  · rw [if_pos h]; simp [h]
  · rw [if_neg h]; split <;> simp [h]
theorem cmpL_eqP {a b : List Int} : cmpL a b = 0 ↔ a = b := by
  unfold cmpL
  by_cases h : ltL a b = true
  · rw [if_pos h]
    constructor
    · intro e; cases e
    · intro e; subst e; rw [ltL_irr] at h; cases h
  · rw [if_neg h]
    by_cases e : a = b
    · rw [if_pos e]; simp [e]
    · rw [if_neg e]; simp [e]
/-- a strictly increasing list of lists -/
def incL (l : List (List Int)) : Prop := ∀ i, i + 1 < l.length → ltL (nthL l i) (nthL l (i + 1)) = true
theorem incL.lt {l : List (List Int)} (h : incL l) {i j : Nat} (hij : i < j) (hj : j < l.length) : ltL (nthL l i) (nthL l j) = true := by
  induction j with
  | zero => omega
  | succ j ih =>
    by_cases e : i = j
    · subst e; exact h i hj
    · exact ltL_trans (ih (by omega) (by omega)) (h j hj)
theorem cfg_inc {size L : Int} {l : List (List Int)} (h : cfgOk size L l = true) : incL l := fun i hi => by
  have h1 := rangeAll_at h hi
  unfold cfgAt at h1
  rw [Bool.and_eq_true, Bool.and_eq_true, Bool.and_eq_true, Bool.or_eq_true] at h1
  rcases h1.2.2.2 with h2 | h2
  · simp at h2
  · have h3 : cmpL (nthL l (i + 1 - 1)) (nthL l (i + 1)) < 0 := by simpa using h2
    rw [Nat.add_sub_cancel] at h3
    exact (cmpL_ltP _ _).1 h3
theorem found_is {l : List (List Int)} {x : List Int} {i : Nat} (hinc : incL l) (h1 : ∀ k, k < i → cmpL (nthL l k) x < 0) (h2 : ∀ k, i ≤ k → k < l.length → 0 ≤ cmpL (nthL l k) x) : (x ∈ l) ↔ (i < l.length ∧ cmpL (nthL l i) x = 0) := by
  constructor
  · intro hm
    obtain ⟨k, hk, e⟩ := List.mem_iff_getElem.1 hm
    have e' : nthL l k = x := by rw [nthL_eq hk]; exact e
    have hki : i ≤ k := by
      rcases Nat.lt_or_ge k i with h | h
      · have := h1 k h; rw [e', cmpL_eqP.2 rfl] at this; omega
      · exact h
    have hik : k = i := by
      rcases Nat.lt_or_ge i k with h | h
      · have h3 := hinc.lt h hk
        rw [e'] at h3
        have h5 := (cmpL_ltP _ _).2 h3
        have h6 := h2 i (Nat.le_refl _) (by omega)
        omega
      · omega
    subst hik
    exact ⟨hk, cmpL_eqP.2 e'⟩
  · rintro ⟨h3, h4⟩
    rw [← cmpL_eqP.1 h4]
    exact nthL_mem h3
theorem search_lo {l : List (List Int)} {x : List Int} {h : Nat} (hinc : incL l) (hh : h < l.length) (hc : cmpL (nthL l h) x < 0) : ∀ k, k < h + 1 → cmpL (nthL l k) x < 0 := fun k hk => by
  by_cases e : k = h
  · rw [e]; exact hc
  · exact (cmpL_ltP _ _).2 (ltL_trans (hinc.lt (show k < h by omega) hh) ((cmpL_ltP _ _).1 hc))
theorem search_hi {l : List (List Int)} {x : List Int} {h : Nat} (hinc : incL l) (hh : h < l.length) (hc : 0 ≤ cmpL (nthL l h) x) : ∀ k, h ≤ k → k < l.length → 0 ≤ cmpL (nthL l k) x := fun k hk hkl => by
  by_cases e : k = h
  · rw [e]; exact hc
  · by_cases hlt : cmpL (nthL l k) x < 0
    · have h5 := (cmpL_ltP _ _).2 (ltL_trans (hinc.lt (show h < k by omega) hkl) ((cmpL_ltP _ _).1 hlt))
      omega
    · omega
theorem wrap_uw (x : Int) (h0 : 0 ≤ x) (h1 : x < 18446744073709551616) : IntKind.u64.wrap (IntKind.i64.wrap x) = x := by
  by_cases h : x < 9223372036854775808
  · rw [IntWalk.i64_in _ (by omega), IntWalk.u64_in _ (by omega)]
  · simp only [IntKind.wrap]
    simp [IntKind.bits, IntKind.signed] <;> omega
theorem ret_ib2 {i : Int} {b c : Bool} (h : b = c) : Ending.returned (.tuple #[.int .i64 i, .bool b]) = .returned (.tuple #[.int .i64 i, .bool c]) := by rw [h]

set_option maxHeartbeats 4000000 in
set_option maxRecDepth 100000 in
theorem BSearch_any (v1 : Value) (l : List (List Int)) (lo1 hi1 : Nat) (v2 : Value) (x : List Int) (lo2 hi2 : Nat) (cmp : Value) (w : World) (h1 : IntSS w lo1 hi1 v1 l) (hh1 : hi1 ≤ w.heap.size) (h2 : IntS w lo2 hi2 v2 x) (hh2 : hi2 ≤ w.heap.size) (hc : cmp = .func (.func 93) #[] #[]) (hinc : incL l) :
    Calls Tryz.prog 90 #[v1, v2, cmp] w fun e w' => ∃ i : Int, e = .returned (.tuple #[.int .i64 i, .bool (decide (x ∈ l))]) ∧ w = w' := by
  have F1 := Lib.hid h1
  obtain ⟨A1, c1, rfl, hc1, hd1⟩ := h1.dims
  clear h1
  have F2 := Lib.hid h2
  obtain ⟨A2, c2, rfl, hc2, hd2⟩ := h2.dims
  clear h2
  go_enter Tryz.func90, Tryz.ntmps90
  subst hc
  have eg := enters_of Tryz.func93 (by kernel_rfl) rfl
  have HINC := Lib.hid hinc; clear hinc
  go_wp2_with fail
  go_loop [9, 10] (fun iv jv => ∃ (i j : Nat), i ≤ j ∧ j ≤ l.length ∧ iv = .int .i64 i ∧ jv = .int .i64 j ∧ Hid (∀ k, k < i → cmpL (nthL l k) x < 0) ∧ Hid (∀ k, j ≤ k → k < l.length → 0 ≤ cmpL (nthL l k) x)) (fun iv jv => (intOf jv).toNat - (intOf iv).toNat)
  case atStart => exact ⟨0, l.length, Nat.zero_le _, Nat.le_refl _, rfl, rfl, Lib.hid (fun k hk => absurd hk (by omega)), Lib.hid (fun k h1 h2 => absurd h2 (by omega))⟩
  case round =>
    obtain ⟨i, j, hij, hjl, rfl, rfl, HLO, HHI⟩ := hrel
    by_cases hlt : i < j
    case neg =>
      obtain rfl : i = j := by omega
      have HF := Lib.hid (found_is HINC.out HLO.out HHI.out)
      by_cases hil : i < l.length
      case neg =>
        have hii : ¬ (i : Int) < l.length := by omega
        have HR := Lib.hid (show decide (x ∈ l) = false from decide_eq_false fun hm => hil (HF.out.1 hm).1)
        go_wp2_with fail
        go_ret2
        first | exact ⟨_, ret_ib2 HR.out.symm, rfl⟩ | exact ⟨⟨_, ret_ib2 HR.out.symm⟩, rfl⟩ | exact ⟨rfl, _, ret_ib2 HR.out.symm⟩
      have hii : (i : Int) < l.length := by omega
      obtain ⟨br, or, ur, rfl, _, hbr, zr, hur⟩ := SS.opened F1.out hil
      obtain ⟨Ar, cr, rfl, hcr, hdr⟩ := hur.dims
      have Ur := Lib.hid hur; clear hur
      obtain ⟨c, HCr⟩ : ∃ z, Hid (cmpL (nthL l i) x = z) := ⟨_, Lib.hid rfl⟩
      by_cases h0 : c = 0
      case pos =>
        subst h0
        have HR := Lib.hid (show decide (x ∈ l) = true from decide_eq_true (HF.out.2 ⟨hil, HCr.out⟩))
        have HCALL := Lib.hid (compareL_any _ (nthL l i) _ _ _ x _ _ w Ur.out (by omega) F2.out (by omega))
        rw [HCr.out] at HCALL
        go_wp2_with (first | go_at_fn 93 | go_at_call 93; go_loud (refine HCALL.out.mono ?_); rintro e w' ⟨rfl, rfl⟩)
        go_ret2
        first | exact ⟨_, ret_ib2 HR.out.symm, rfl⟩ | exact ⟨⟨_, ret_ib2 HR.out.symm⟩, rfl⟩ | exact ⟨rfl, _, ret_ib2 HR.out.symm⟩
      have HR := Lib.hid (show decide (x ∈ l) = false from decide_eq_false fun hm => h0 (by rw [← HCr.out]; exact (HF.out.1 hm).2))
      have h0e : (c == 0) = false := by simpa using h0
      have HCALL := Lib.hid (compareL_any _ (nthL l i) _ _ _ x _ _ w Ur.out (by omega) F2.out (by omega))
      rw [HCr.out] at HCALL
      go_wp2_with (first | go_at_fn 93 | go_at_call 93; go_loud (refine HCALL.out.mono ?_); rintro e w' ⟨rfl, rfl⟩)
      go_ret2
      first | exact ⟨_, ret_ib2 HR.out.symm, rfl⟩ | exact ⟨⟨_, ret_ib2 HR.out.symm⟩, rfl⟩ | exact ⟨rfl, _, ret_ib2 HR.out.symm⟩
    have hiji : (i : Int) < j := by omega
    obtain ⟨s, HS⟩ : ∃ s, Hid (i + j = s) := ⟨_, Lib.hid rfl⟩
    have hs := HS.out
    obtain ⟨sw, HSW⟩ : ∃ z, Hid (IntKind.i64.wrap ((i : Int) + (j : Int)) = z) := ⟨_, Lib.hid rfl⟩
    have hws := HSW.out
    have hus : IntKind.u64.wrap sw = (s : Int) := by rw [← hws, wrap_uw _ (by omega) (by omega)]; omega
    obtain ⟨h, HH⟩ : ∃ h, Hid (s / 2 = h) := ⟨_, Lib.hid rfl⟩
    have hd : (s : Int) / 2 = (h : Int) := by have := HH.out; omega
    have hh1 : i ≤ h ∧ h < j := by have := HH.out; omega
    have hhl : h < l.length := by omega
    have hwh : IntKind.i64.wrap (h : Int) = (h : Int) := IntWalk.i64_in _ (by omega)
    have hwh1 : IntKind.i64.wrap ((h : Int) + 1) = ((h + 1 : Nat) : Int) := by rw [IntWalk.i64_in _ (by omega)]; omega
    have hhi : (h : Int) < l.length := by omega
    clear hs
    obtain ⟨bm, om, um, rfl, _, hbm, zm, hum⟩ := SS.opened F1.out hhl
    obtain ⟨Am, cm, rfl, hcm, hdm⟩ := hum.dims
    have Um := Lib.hid hum; clear hum
    obtain ⟨c, HCm⟩ : ∃ z, Hid (cmpL (nthL l h) x = z) := ⟨_, Lib.hid rfl⟩
    by_cases h0 : c < 0
    case pos =>
      have HLN := Lib.hid (search_lo HINC.out hhl (x := x) (by rw [HCm.out]; exact h0))
      have HCALL := Lib.hid (compareL_any _ (nthL l h) _ _ _ x _ _ w Um.out (by omega) F2.out (by omega))
      rw [HCm.out] at HCALL
      go_wp2_with (first | go_at_fn 93 | go_at_call 93; go_loud (refine HCALL.out.mono ?_); rintro e w' ⟨rfl, rfl⟩)
      go_round
      case rel => exact ⟨h + 1, j, by omega, hjl, by go_num, rfl, HLN, HHI⟩
      case measure => simp [intOf]; omega
    have HHN := Lib.hid (search_hi HINC.out hhl (x := x) (by rw [HCm.out]; omega))
    have HCALL := Lib.hid (compareL_any _ (nthL l h) _ _ _ x _ _ w Um.out (by omega) F2.out (by omega))
    rw [HCm.out] at HCALL
    go_wp2_with (first | go_at_fn 93 | go_at_call 93; go_loud (refine HCALL.out.mono ?_); rintro e w' ⟨rfl, rfl⟩)
    go_round
    case rel => exact ⟨i, h, by omega, by omega, rfl, rfl, HLO, HHN⟩
    case measure => simp [intOf]; omega

end Go.Proofs.YtkcbocoimbhhaaaGreat

/- Contracts: whether labels are a configuration; pairs of labels; labels beside a set (program). -/
namespace Go.Proofs.YtkcbocoimbhhaaaGreat
open Go.ChangeShapes Go.WideShapes Go.ChangeAt Go.RowKit
set_option linter.unusedVariables false

theorem sortI_two (a b : Int) : sortI [a, b] = [min a b, max a b] := by
  have h := sortI_sorted [a, b]
  have hl := sortI_length [a, b]
  have hp := sortI_perm [a, b]
  match hs : sortI [a, b], hl with
  | [x, y], _ =>
    rw [hs] at h hp
    have hxy : x ≤ y := by
      have := List.pairwise_cons.1 h
      exact this.1 y (by simp)
    have h1 : x ∈ [a, b] := hp.mem_iff.1 (by simp)
    have h2 : y ∈ [a, b] := hp.mem_iff.1 (by simp)
    have h3 : a ∈ [x, y] := hp.mem_iff.2 (by simp)
    have h4 : b ∈ [x, y] := hp.mem_iff.2 (by simp)
    simp at h1 h2 h3 h4
    have e1 : x = min a b := by omega
    have e2 : y = max a b := by omega
    rw [e1, e2]
theorem prd_nodes {P : PrD} (h : P.good = true) : incL P.nodes := by
  unfold PrD.good at h
  rw [Bool.and_eq_true, Bool.and_eq_true, Bool.and_eq_true] at h
  exact cfg_inc h.2.2.1
theorem prd_edges {P : PrD} (h : P.good = true) : incL P.edges := by
  unfold PrD.good at h
  rw [Bool.and_eq_true, Bool.and_eq_true, Bool.and_eq_true] at h
  exact cfg_inc h.2.2.2
theorem orSet {s k : Nat} {g : Nat → Bool} (h1 : g k = true) (h2 : setOf k g = s) : s ||| 2 ^ k = setOf (k + 1) g := by
  rw [← h2]
  apply Nat.eq_of_testBit_eq
  intro i
  rw [Nat.testBit_or, setOf_test, setOf_test, Nat.testBit_two_pow]
  by_cases e : k = i
  · subst e; simp [h1]
  · by_cases h3 : i < k
    · simp [h3, e, show i < k + 1 by omega]
    · simp [h3, e, show ¬ i < k + 1 by omega]
theorem ret_pb {r : Value} {b c : Bool} (h : b = c) : Ending.returned (.tuple #[r, .bool b]) = .returned (.tuple #[r, .bool c]) := by rw [h]

set_option maxHeartbeats 2000000 in
set_option maxRecDepth 100000 in
theorem hasCfg_any (v1 : Value) (l : List (List Int)) (lo1 hi1 : Nat) (v2 : Value) (x : List Int) (lo2 hi2 : Nat) (w : World) (h1 : IntSS w lo1 hi1 v1 l) (hh1 : hi1 ≤ w.heap.size) (h2 : IntS w lo2 hi2 v2 x) (hh2 : hi2 ≤ w.heap.size) (hinc : incL l) (hx : x.length ≤ 1000) :
    Calls Tryz.prog 66 #[v1, v2] w fun e w' => e = .returned (.bool (decide (sortI x ∈ l))) ∧ Below w.heap.size w w' := by
  have F1 := Lib.hid h1
  obtain ⟨A1, c1, rfl, hc1, hd1⟩ := h1.dims
  clear h1
  have F2 := Lib.hid h2
  obtain ⟨A2, c2, rfl, hc2, hd2⟩ := h2.dims
  clear h2
  go_enter Tryz.func66, Tryz.ntmps66
  have HINC := Lib.hid hinc; clear hinc
  go_wp2_with fail
  refine (vals_any A2 x.length c2 w).mono ?_
  rintro e W1 ⟨rfl, hw⟩
  have bxv : BoxN W1 w.heap.size #[.slice A2 x.length c2] 26 := by rw [hw]; exact BoxN.new _ _ _
  have hz : W1.heap.size = w.heap.size + 1 := by rw [hw]; simp
  have hg1 : w.grownBy W1 none := by rw [hw]; exact grown_alloc _ _
  clear hw
  have hs1 := hg1.size
  have HF1 := Lib.hid ((Turned.refl w.heap.size w.heap.size w).still hg1)
  go_wp2_with fail
  refine (Sorted_any w.heap.size _ _ _ x W1 (by omega) (by omega) bxv (IntS.turned F2.out HF1.out (by omega) (by omega)) hx).mono ?_
  rintro e W2 ⟨r, rfl, hr, hb2⟩
  have hg2 := grown_below hb2; clear hb2
  have hs2 := hg2.size
  have HF2 := Lib.hid (HF1.out.still hg2); clear HF1
  have S2 := Lib.hid hr; clear hr
  obtain ⟨As, cs, rfl, hcs, hds⟩ := S2.out.dims
  go_wp2_with fail
  refine (BSearch_any _ l _ _ _ (sortI x) _ _ _ _ (ISS.turned F1.out HF2.out (by omega) (by omega)) (by omega) S2.out (by omega) rfl HINC.out).mono ?_
  rintro e w' ⟨iv, rfl, rfl⟩
  obtain ⟨z, HZ⟩ : ∃ z, Hid (decide (sortI x ∈ l) = z) := ⟨_, Lib.hid rfl⟩
  rw [HZ.out]
  go_wp2_with fail
  go_ret
  exact ⟨ret_bool HZ.out.symm, (HF2.out.below_of (Below.refl _ _) (by omega) (by omega))⟩

set_option maxHeartbeats 2000000 in
set_option maxRecDepth 100000 in
theorem nodeP_any (v1 : Value) (P : PrD) (lo1 hi1 : Nat) (v2 : Value) (x : List Int) (lo2 hi2 : Nat) (w : World) (h1 : Pro w lo1 hi1 v1 P) (hh1 : hi1 ≤ w.heap.size) (h2 : IntS w lo2 hi2 v2 x) (hh2 : hi2 ≤ w.heap.size) (hg : P.good = true) (hx : x.length ≤ 1000) :
    Calls Tryz.prog 33 #[v1, v2] w fun e w' => e = .returned (.bool (decide (sortI x ∈ P.nodes))) ∧ Below w.heap.size w w' := by
  have F1 := Lib.hid h1
  obtain ⟨A1, c1, A1', c1', rfl, hc1, hd1⟩ := h1.parts
  clear h1
  have F2 := Lib.hid h2
  obtain ⟨A2, c2, rfl, hc2, hd2⟩ := h2.dims
  clear h2
  obtain ⟨WA, HWA⟩ : ∃ W, Hid (W = (w.alloc (.cells #[.int .i64 P.L, .int .i64 P.D, .slice A1 P.nodes.length c1, .slice A1' P.edges.length c1'] 34))) := ⟨_, Lib.hid rfl⟩
  have hbA : Below w.heap.size w WA := by rw [HWA.out]; exact ((Below.refl _ _).alloc (Nat.le_refl _) _)
  have hsA : w.heap.size + 1 ≤ WA.heap.size := by rw [HWA.out]; simp; try omega
  have bx1 : BoxN WA (w.heap.size) #[.int .i64 P.L, .int .i64 P.D, .slice A1 P.nodes.length c1, .slice A1' P.edges.length c1'] 34 := by rw [HWA.out]; exact (BoxN.new' _ _ _ (by simp))
  have G1 := Lib.hid (Pro.below F1.out hbA hh1); clear F1
  have G2 := Lib.hid (IntS.below F2.out hbA hh2); clear F2
  go_enter Tryz.func33, Tryz.ntmps33
  go_upto_region 1 with (fail)
  rw [← HWA.out]; clear HWA
  have HG := Lib.hid hg; clear hg
  have kbx1_0 : WA.cell? ⟨w.heap.size, 0, none⟩ = some (.int .i64 P.L) := bx1.cell 0 (by simp)
  have kbx1_1 : WA.cell? ⟨w.heap.size, 1, none⟩ = some (.int .i64 P.D) := bx1.cell 1 (by simp)
  have kbx1_2 : WA.cell? ⟨w.heap.size, 2, none⟩ = some (.slice A1 P.nodes.length c1) := bx1.cell 2 (by simp)
  have kbx1_3 : WA.cell? ⟨w.heap.size, 3, none⟩ = some (.slice A1' P.edges.length c1') := bx1.cell 3 (by simp)
  go_wp2_with fail
  clear kbx1_0 kbx1_1 kbx1_2 kbx1_3
  refine (hasCfg_any _ P.nodes _ _ _ x _ _ _ (Pro.nodesS G1.out) (by omega) G2.out (by omega) (prd_nodes HG.out) hx).mono ?_
  rintro e W1 ⟨rfl, hb1⟩
  have hg1 := grown_below hb1; clear hb1
  have hs1 := hg1.size
  have HF1 := Lib.hid ((Turned.refl WA.heap.size WA.heap.size WA).still hg1)
  obtain ⟨z, HZ⟩ : ∃ z, Hid (decide (sortI x ∈ P.nodes) = z) := ⟨_, Lib.hid rfl⟩
  rw [HZ.out]
  go_wp2_with fail
  go_ret
  exact ⟨ret_bool HZ.out.symm, (HF1.out.below_of hbA (by omega) (by omega))⟩

set_option maxHeartbeats 2000000 in
set_option maxRecDepth 100000 in
theorem edgeP_any (v1 : Value) (P : PrD) (lo1 hi1 : Nat) (a : Int) (b : Int) (w : World) (h1 : Pro w lo1 hi1 v1 P) (hh1 : hi1 ≤ w.heap.size) (hg : P.good = true) :
    Calls Tryz.prog 110 #[v1, .int .i64 a, .int .i64 b] w fun e w' => e = .returned (.bool (edgeB P a b)) ∧ Below w.heap.size w w' := by
  have F1 := Lib.hid h1
  obtain ⟨A1, c1, A1', c1', rfl, hc1, hd1⟩ := h1.parts
  clear h1
  obtain ⟨WA, HWA⟩ : ∃ W, Hid (W = (w.alloc (.cells #[.int .i64 P.L, .int .i64 P.D, .slice A1 P.nodes.length c1, .slice A1' P.edges.length c1'] 34))) := ⟨_, Lib.hid rfl⟩
  have hbA : Below w.heap.size w WA := by rw [HWA.out]; exact ((Below.refl _ _).alloc (Nat.le_refl _) _)
  have hsA : w.heap.size + 1 ≤ WA.heap.size := by rw [HWA.out]; simp; try omega
  have bx1 : BoxN WA (w.heap.size) #[.int .i64 P.L, .int .i64 P.D, .slice A1 P.nodes.length c1, .slice A1' P.edges.length c1'] 34 := by rw [HWA.out]; exact (BoxN.new' _ _ _ (by simp))
  have G1 := Lib.hid (Pro.below F1.out hbA hh1); clear F1
  go_enter Tryz.func110, Tryz.ntmps110
  go_upto_region 1 with (fail)
  rw [← HWA.out]; clear HWA
  have HG := Lib.hid hg; clear hg
  have kbx1_0 : WA.cell? ⟨w.heap.size, 0, none⟩ = some (.int .i64 P.L) := bx1.cell 0 (by simp)
  have kbx1_1 : WA.cell? ⟨w.heap.size, 1, none⟩ = some (.int .i64 P.D) := bx1.cell 1 (by simp)
  have kbx1_2 : WA.cell? ⟨w.heap.size, 2, none⟩ = some (.slice A1 P.nodes.length c1) := bx1.cell 2 (by simp)
  have kbx1_3 : WA.cell? ⟨w.heap.size, 3, none⟩ = some (.slice A1' P.edges.length c1') := bx1.cell 3 (by simp)
  go_wp2_with fail
  clear kbx1_0 kbx1_1 kbx1_2 kbx1_3
  refine nameK ?_
  intro W1 HW1
  have hg1 : WA.grownBy W1 none := by rw [HW1.out]; exact grown_alloc _ _
  have hs1 := hg1.size
  have HF1 := Lib.hid ((Turned.refl WA.heap.size WA.heap.size WA).still hg1)
  have HB1 := Lib.hid (show IntS W1 WA.heap.size (WA.heap.size + 1) (.slice (some ⟨WA.heap.size, 0, none⟩) 2 2) [a, b] by rw [HW1.out]; exact IntS.newN WA [a, b] _ rfl (by simp))
  have hzb : WA.heap.size + 1 ≤ W1.heap.size := by rw [HW1.out]; simp
  clear HW1
  refine (hasCfg_any _ P.edges _ _ _ [a, b] _ _ _ (Pro.edgesS (Pro.turned G1.out HF1.out (by omega) (by omega))) (by omega) HB1.out (by omega) (prd_edges HG.out) (by simp)).mono ?_
  rintro e W2 ⟨rfl, hb2⟩
  have hg2 := grown_below hb2; clear hb2
  have hs2 := hg2.size
  have HF2 := Lib.hid (HF1.out.still hg2); clear HF1
  have HR := Lib.hid (show decide (sortI [a, b] ∈ P.edges) = edgeB P a b by unfold edgeB; rw [sortI_two])
  rw [HR.out]
  clear HR
  obtain ⟨z, HZ⟩ : ∃ z, Hid (edgeB P a b = z) := ⟨_, Lib.hid rfl⟩
  rw [HZ.out]
  go_wp2_with fail
  go_ret
  exact ⟨ret_bool HZ.out.symm, (HF2.out.below_of hbA (by omega) (by omega))⟩

set_option maxHeartbeats 4000000 in
set_option maxRecDepth 100000 in
theorem badPair_any (v1 : Value) (P : PrD) (lo1 hi1 : Nat) (v2 : Value) (x : List Int) (lo2 hi2 : Nat) (v3 : Value) (y : List Int) (lo3 hi3 : Nat) (w : World) (h1 : Pro w lo1 hi1 v1 P) (hh1 : hi1 ≤ w.heap.size) (h2 : IntS w lo2 hi2 v2 x) (hh2 : hi2 ≤ w.heap.size) (h3 : IntS w lo3 hi3 v3 y) (hh3 : hi3 ≤ w.heap.size) (hg : P.good = true) :
    Calls Tryz.prog 98 #[v1, v2, v3] w fun e w' => ∃ r : Value, e = .returned (.tuple #[r, .bool (!pairsB P x y)]) ∧ Below w.heap.size w w' := by
  have F1 := Lib.hid h1
  obtain ⟨A1, c1, A1', c1', rfl, hc1, hd1⟩ := h1.parts
  clear h1
  have F2 := Lib.hid h2
  obtain ⟨A2, c2, rfl, hc2, hd2⟩ := h2.dims
  clear h2
  have F3 := Lib.hid h3
  obtain ⟨A3, c3, rfl, hc3, hd3⟩ := h3.dims
  clear h3
  obtain ⟨WA, HWA⟩ : ∃ W, Hid (W = (w.alloc (.cells #[.int .i64 P.L, .int .i64 P.D, .slice A1 P.nodes.length c1, .slice A1' P.edges.length c1'] 34))) := ⟨_, Lib.hid rfl⟩
  have hbA : Below w.heap.size w WA := by rw [HWA.out]; exact ((Below.refl _ _).alloc (Nat.le_refl _) _)
  have hsA : w.heap.size + 1 ≤ WA.heap.size := by rw [HWA.out]; simp; try omega
  have bx1 : BoxN WA (w.heap.size) #[.int .i64 P.L, .int .i64 P.D, .slice A1 P.nodes.length c1, .slice A1' P.edges.length c1'] 34 := by rw [HWA.out]; exact (BoxN.new' _ _ _ (by simp))
  have G1 := Lib.hid (Pro.below F1.out hbA hh1); clear F1
  have G2 := Lib.hid (IntS.below F2.out hbA hh2); clear F2
  have G3 := Lib.hid (IntS.below F3.out hbA hh3); clear F3
  go_enter Tryz.func98, Tryz.ntmps98
  go_upto_region 1 with (fail)
  rw [← HWA.out]; clear HWA
  have HG := Lib.hid hg; clear hg
  go_wp2_with fail
  go_loopw [14] (fun iv wr => ∃ (i : Nat), i ≤ x.length ∧ iv = .int .i64 i ∧ Hid (∀ k, k < i → ∀ j, j < y.length → edgeB P (nth x k) (nth y j) = true) ∧ Hid (Turned WA.heap.size WA.heap.size WA wr)) (fun iv _ => x.length - (intOf iv).toNat)
  case atStart => exact ⟨0, Nat.zero_le _, rfl, Lib.hid (fun k hk => absurd hk (by omega)), Lib.hid (Turned.refl WA.heap.size WA.heap.size WA)⟩
  case round =>
    obtain ⟨i, hi, rfl, HN, HF1⟩ := hrel
    have hs1 := HF1.out.size
    obtain ⟨wq, rfl⟩ : ∃ wq : World, wq = wr := ⟨_, rfl⟩
    by_cases hlt : i < x.length
    case neg =>
      have HR := Lib.hid (pairs_yes fun k hk j hj => HN.out k (by omega) j hj)
      go_wp2_with fail
      go_ret2
      first | exact ⟨_, ret_pb (by rw [HR.out]; rfl), (HF1.out.below_of hbA (by omega) (by omega))⟩ | exact ⟨⟨_, ret_pb (by rw [HR.out]; rfl)⟩, (HF1.out.below_of hbA (by omega) (by omega))⟩
    obtain ⟨ba, oa, rfl, _, hba', xa, _⟩ := (IntS.turned G2.out HF1.out (by omega) (by omega)).opened hlt
    obtain ⟨a, HA⟩ : ∃ z, Hid (nth x i = z) := ⟨_, Lib.hid rfl⟩
    rw [HA.out] at xa
    have hii : (i : Int) < x.length := by omega
    go_wp2_with fail
    clear xa
    go_loopw [20] (fun jv wr => ∃ (j : Nat), j ≤ y.length ∧ jv = .int .i64 j ∧ Hid (∀ k, k < j → edgeB P a (nth y k) = true) ∧ Hid (Turned WA.heap.size WA.heap.size WA wr)) (fun jv _ => y.length - (intOf jv).toNat)
    case atStart => exact ⟨0, Nat.zero_le _, rfl, Lib.hid (fun k hk => absurd hk (by omega)), HF1⟩
    case round =>
      clear HF1
      obtain ⟨j, hj, rfl, HM, HF2⟩ := hrel
      have hs2 := HF2.out.size
      obtain ⟨wi, rfl⟩ : ∃ wi : World, wi = wr := ⟨_, rfl⟩
      by_cases hjl : j < y.length
      case neg =>
        have HNN := Lib.hid (below_succY (p := fun k => ∀ j, j < y.length → edgeB P (nth x k) (nth y j) = true) HN.out (fun j' hj' => by rw [HA.out]; exact HM.out j' (by omega)))
        go_wp2_with fail
        go_roundw
        case rel => exact ⟨i + 1, by omega, by go_num, HNN, HF2⟩
        case measure => simp [intOf]; omega
      obtain ⟨bb, ob, rfl, _, hbb', xb, _⟩ := (IntS.turned G3.out HF2.out (by omega) (by omega)).opened hjl
      obtain ⟨b, HB⟩ : ∃ z, Hid (nth y j = z) := ⟨_, Lib.hid rfl⟩
      rw [HB.out] at xb
      have hji : (j : Int) < y.length := by omega
      have kbx1_0 : wi.cell? ⟨w.heap.size, 0, none⟩ = some (.int .i64 P.L) := (HF2.out.boxN bx1 (by omega)).cell 0 (by simp)
      have kbx1_1 : wi.cell? ⟨w.heap.size, 1, none⟩ = some (.int .i64 P.D) := (HF2.out.boxN bx1 (by omega)).cell 1 (by simp)
      have kbx1_2 : wi.cell? ⟨w.heap.size, 2, none⟩ = some (.slice A1 P.nodes.length c1) := (HF2.out.boxN bx1 (by omega)).cell 2 (by simp)
      have kbx1_3 : wi.cell? ⟨w.heap.size, 3, none⟩ = some (.slice A1' P.edges.length c1') := (HF2.out.boxN bx1 (by omega)).cell 3 (by simp)
      go_wp2_with fail
      clear xb kbx1_0 kbx1_1 kbx1_2 kbx1_3
      refine (edgeP_any _ P _ _ a b _ (Pro.turned G1.out HF2.out (by omega) (by omega)) (by omega) HG.out).mono ?_
      rintro e W3 ⟨rfl, hb3⟩
      have hg3 := grown_below hb3; clear hb3
      have hs3 := hg3.size
      have HF3 := Lib.hid (HF2.out.still hg3); clear HF2
      cases he : edgeB P a b with
      | false =>
        have HR := Lib.hid (pairs_no (P := P) hlt hjl (by rw [HA.out, HB.out]; exact he))
        clear he
        go_wp2_with fail
        go_ret2
        first | exact ⟨_, ret_pb (by rw [HR.out]; rfl), ((HF3.out.below_of hbA (by omega) (by omega))).alloc (by omega) _⟩ | exact ⟨⟨_, ret_pb (by rw [HR.out]; rfl)⟩, ((HF3.out.below_of hbA (by omega) (by omega))).alloc (by omega) _⟩
      | true =>
        have HMM := Lib.hid (below_succY (p := fun k => edgeB P a (nth y k) = true) HM.out (by rw [HB.out]; exact he))
        clear he
        go_wp2_with fail
        go_roundw
        case rel => exact ⟨j + 1, by omega, by go_num, HMM, HF3⟩
        case measure => simp [intOf]; omega

set_option maxHeartbeats 2000000 in
set_option maxRecDepth 100000 in
theorem isGoodPair_any (v1 : Value) (P : PrD) (lo1 hi1 : Nat) (v2 : Value) (x : List Int) (lo2 hi2 : Nat) (v3 : Value) (y : List Int) (lo3 hi3 : Nat) (w : World) (h1 : Pro w lo1 hi1 v1 P) (hh1 : hi1 ≤ w.heap.size) (h2 : IntS w lo2 hi2 v2 x) (hh2 : hi2 ≤ w.heap.size) (h3 : IntS w lo3 hi3 v3 y) (hh3 : hi3 ≤ w.heap.size) (hg : P.good = true) :
    Calls Tryz.prog 78 #[v1, v2, v3] w fun e w' => e = .returned (.bool (pairsB P x y)) ∧ Below w.heap.size w w' := by
  have F1 := Lib.hid h1
  obtain ⟨A1, c1, A1', c1', rfl, hc1, hd1⟩ := h1.parts
  clear h1
  have F2 := Lib.hid h2
  obtain ⟨A2, c2, rfl, hc2, hd2⟩ := h2.dims
  clear h2
  have F3 := Lib.hid h3
  obtain ⟨A3, c3, rfl, hc3, hd3⟩ := h3.dims
  clear h3
  obtain ⟨WA, HWA⟩ : ∃ W, Hid (W = (w.alloc (.cells #[.int .i64 P.L, .int .i64 P.D, .slice A1 P.nodes.length c1, .slice A1' P.edges.length c1'] 34))) := ⟨_, Lib.hid rfl⟩
  have hbA : Below w.heap.size w WA := by rw [HWA.out]; exact ((Below.refl _ _).alloc (Nat.le_refl _) _)
  have hsA : w.heap.size + 1 ≤ WA.heap.size := by rw [HWA.out]; simp; try omega
  have bx1 : BoxN WA (w.heap.size) #[.int .i64 P.L, .int .i64 P.D, .slice A1 P.nodes.length c1, .slice A1' P.edges.length c1'] 34 := by rw [HWA.out]; exact (BoxN.new' _ _ _ (by simp))
  have G1 := Lib.hid (Pro.below F1.out hbA hh1); clear F1
  have G2 := Lib.hid (IntS.below F2.out hbA hh2); clear F2
  have G3 := Lib.hid (IntS.below F3.out hbA hh3); clear F3
  go_enter Tryz.func78, Tryz.ntmps78
  go_upto_region 1 with (fail)
  rw [← HWA.out]; clear HWA
  have HG := Lib.hid hg; clear hg
  have kbx1_0 : WA.cell? ⟨w.heap.size, 0, none⟩ = some (.int .i64 P.L) := bx1.cell 0 (by simp)
  have kbx1_1 : WA.cell? ⟨w.heap.size, 1, none⟩ = some (.int .i64 P.D) := bx1.cell 1 (by simp)
  have kbx1_2 : WA.cell? ⟨w.heap.size, 2, none⟩ = some (.slice A1 P.nodes.length c1) := bx1.cell 2 (by simp)
  have kbx1_3 : WA.cell? ⟨w.heap.size, 3, none⟩ = some (.slice A1' P.edges.length c1') := bx1.cell 3 (by simp)
  go_wp2_with fail
  clear kbx1_0 kbx1_1 kbx1_2 kbx1_3
  refine (badPair_any _ P _ _ _ x _ _ _ y _ _ _ G1.out (by omega) G2.out (by omega) G3.out (by omega) HG.out).mono ?_
  rintro e W1 ⟨r, rfl, hb1⟩
  have hg1 := grown_below hb1; clear hb1
  have hs1 := hg1.size
  have HF1 := Lib.hid ((Turned.refl WA.heap.size WA.heap.size WA).still hg1)
  obtain ⟨z, HZ⟩ : ∃ z, Hid (pairsB P x y = z) := ⟨_, Lib.hid rfl⟩
  rw [HZ.out]
  go_wp2_with fail
  go_ret
  exact ⟨ret_bool HZ.out.symm, (HF1.out.below_of hbA (by omega) (by omega))⟩

set_option maxHeartbeats 4000000 in
set_option maxRecDepth 100000 in
theorem beside_any (v1 : Value) (P : PrD) (lo1 hi1 : Nat) (m : Nat) (w : World) (h1 : Pro w lo1 hi1 v1 P) (hh1 : hi1 ≤ w.heap.size) (n : Nat) (f : Nat → Bool) (hg : P.good = true) (hL : P.L = (n : Nat)) (n8 : n ≤ 8) (hm : m = setOf n f) :
    Calls Tryz.prog 51 #[v1, .int .i64 (m : Nat)] w fun e w' => e = .returned (.int .i64 (setOf n fun b : Nat => pairsB P (ascI n f) [(b : Int)] : Nat)) ∧ Below w.heap.size w w' := by
  have HG := Lib.hid hg; clear hg
  have HL8 := Lib.hid hL; clear hL
  have HMS := Lib.hid hm; clear hm
  have F1 := Lib.hid h1
  obtain ⟨A1, c1, A1', c1', rfl, hc1, hd1⟩ := h1.parts
  clear h1
  obtain ⟨WA, HWA⟩ : ∃ W, Hid (W = (w.alloc (.cells #[.int .i64 P.L, .int .i64 P.D, .slice A1 P.nodes.length c1, .slice A1' P.edges.length c1'] 34))) := ⟨_, Lib.hid rfl⟩
  have hbA : Below w.heap.size w WA := by rw [HWA.out]; exact ((Below.refl _ _).alloc (Nat.le_refl _) _)
  have hsA : w.heap.size + 1 ≤ WA.heap.size := by rw [HWA.out]; simp; try omega
  have bx1 : BoxN WA (w.heap.size) #[.int .i64 P.L, .int .i64 P.D, .slice A1 P.nodes.length c1, .slice A1' P.edges.length c1'] 34 := by rw [HWA.out]; exact (BoxN.new' _ _ _ (by simp))
  have G1 := Lib.hid (Pro.below F1.out hbA hh1); clear F1
  go_enter Tryz.func51, Tryz.ntmps51
  go_upto_region 1 with (fail)
  rw [← HWA.out]; clear HWA
  have kbx1_0 : WA.cell? ⟨w.heap.size, 0, none⟩ = some (.int .i64 P.L) := bx1.cell 0 (by simp)
  have kbx1_1 : WA.cell? ⟨w.heap.size, 1, none⟩ = some (.int .i64 P.D) := bx1.cell 1 (by simp)
  have kbx1_2 : WA.cell? ⟨w.heap.size, 2, none⟩ = some (.slice A1 P.nodes.length c1) := bx1.cell 2 (by simp)
  have kbx1_3 : WA.cell? ⟨w.heap.size, 3, none⟩ = some (.slice A1' P.edges.length c1') := bx1.cell 3 (by simp)
  go_wp2_with fail
  clear kbx1_0 kbx1_1 kbx1_2 kbx1_3
  rw [HL8.out]
  go_loopw [5, 9] (fun mv kv wr => ∃ (k s : Nat), k ≤ n ∧ mv = .int .i64 s ∧ kv = .int .i64 k ∧ Hid (setOf k (fun b : Nat => pairsB P (ascI n f) [(b : Int)]) = s) ∧ Hid (Turned WA.heap.size WA.heap.size WA wr)) (fun mv kv _ => n - (intOf kv).toNat)
  case atStart => exact ⟨0, 0, Nat.zero_le _, rfl, rfl, Lib.hid rfl, Lib.hid (Turned.refl WA.heap.size WA.heap.size WA)⟩
  case round =>
    obtain ⟨k, s, hk, rfl, rfl, HS, HF1⟩ := hrel
    have hs1 := HF1.out.size
    obtain ⟨wq, rfl⟩ : ∃ wq : World, wq = wr := ⟨_, rfl⟩
    by_cases hlt : k < n
    case neg =>
      obtain rfl : k = n := by omega
      go_wp2_with fail
      go_ret
      exact ⟨ret_int (by rw [HS.out]), (HF1.out.below_of hbA (by omega) (by omega))⟩
    have hki : (k : Int) < n := by omega
    go_upto_region 5 with (fail)
    refine wp_region_U (fun w' => w'.cell? ⟨w.heap.size, 0, none⟩ = some (.int .i64 P.L) ∧ w'.cell? ⟨w.heap.size, 1, none⟩ = some (.int .i64 P.D) ∧ w'.cell? ⟨w.heap.size, 2, none⟩ = some (.slice A1 P.nodes.length c1) ∧ w'.cell? ⟨w.heap.size, 3, none⟩ = some (.slice A1' P.edges.length c1')) [] (by kernel_rfl) ?_
    refine nameU ?_
    intro W2 HW2
    have hg2 : wq.grownBy W2 none := by rw [HW2.out]; exact grown_drew _
    clear HW2
    have hs2 := hg2.size
    have HF2 := Lib.hid (HF1.out.still hg2); clear HF1
    have hS3 : W2.cell? ⟨w.heap.size, 0, none⟩ = some (.int .i64 P.L) ∧ W2.cell? ⟨w.heap.size, 1, none⟩ = some (.int .i64 P.D) ∧ W2.cell? ⟨w.heap.size, 2, none⟩ = some (.slice A1 P.nodes.length c1) ∧ W2.cell? ⟨w.heap.size, 3, none⟩ = some (.slice A1' P.edges.length c1') := ⟨(HF2.out.boxN bx1 (by omega)).cell 0 (by simp), (HF2.out.boxN bx1 (by omega)).cell 1 (by simp), (HF2.out.boxN bx1 (by omega)).cell 2 (by simp), (HF2.out.boxN bx1 (by omega)).cell 3 (by simp)⟩
    refine anyU_take (i := 0) (v := .agg #[.int .i64 P.L, .int .i64 P.D, .slice A1 P.nodes.length c1, .slice A1' P.edges.length c1']) rfl (by kernel_rfl) (by kernel_rfl) (by kernel_rfl) (fun _ _ _ h => h) ⟨by rfl, fun w' hS' => (by obtain ⟨s1, s2, s3, s4⟩ := hS'; go_simp)⟩ hS3 ?_
    simp only [List.getElem_toArray, List.getElem_cons_zero, Act.put, List.setIfInBounds_toArray, List.set_cons_zero, List.set_cons_succ]
    refine anyU_take (i := 1) (v := .int .i64 m) rfl (by kernel_rfl) (by kernel_rfl) (by kernel_rfl) (fun _ _ _ h => h) ⟨by rfl, fun w' hS' => (by obtain ⟨s1, s2, s3, s4⟩ := hS'; go_simp)⟩ hS3 ?_
    simp only [List.getElem_toArray, List.getElem_cons_succ, List.getElem_cons_zero, Act.put, List.setIfInBounds_toArray, List.set_cons_zero, List.set_cons_succ]
    refine anyU_take (i := 3) (v := .int .i64 k) rfl (by kernel_rfl) (by kernel_rfl) (by kernel_rfl) (fun _ _ _ h => h) ⟨by rfl, fun w' hS' => (by obtain ⟨s1, s2, s3, s4⟩ := hS'; go_simp)⟩ hS3 ?_
    simp only [List.getElem_toArray, List.getElem_cons_succ, List.getElem_cons_zero, Act.put, List.setIfInBounds_toArray, List.set_cons_zero, List.set_cons_succ]
    refine anyU_ready (rs := [2, 4]) (by kernel_rfl) (by simp) ?_
    refine ReadyU.cons (i := 2) rfl (fun K hK => ?_) (ReadyU.cons (i := 4) rfl (fun K hK => ?_) ReadyU.nil)
    · skip
      simp only [List.getElem_toArray, List.getElem_cons_succ, List.getElem_cons_zero]
      refine ite_is (by rfl) ?_
      simp [go_sem]
      refine (labelsIn_any m _ n f HMS.out (by omega)).mono ?_
      rintro e W4 ⟨r, rfl, hr, hb4⟩
      have hg4 := grown_below hb4; clear hb4
      have hs4 := hg4.size
      have HF4 := Lib.hid (HF2.out.still hg4); clear HF2
      have R4 := Lib.hid hr; clear hr
      have hS5 : W4.cell? ⟨w.heap.size, 0, none⟩ = some (.int .i64 P.L) ∧ W4.cell? ⟨w.heap.size, 1, none⟩ = some (.int .i64 P.D) ∧ W4.cell? ⟨w.heap.size, 2, none⟩ = some (.slice A1 P.nodes.length c1) ∧ W4.cell? ⟨w.heap.size, 3, none⟩ = some (.slice A1' P.edges.length c1') := ⟨(HF4.out.boxN bx1 (by omega)).cell 0 (by simp), (HF4.out.boxN bx1 (by omega)).cell 1 (by simp), (HF4.out.boxN bx1 (by omega)).cell 2 (by simp), (HF4.out.boxN bx1 (by omega)).cell 3 (by simp)⟩
      refine hK.out _ _ ⟨fun _ => hS5, ?_⟩
      clear hK K hS3
      try simp only [List.getElem_toArray, List.getElem_cons_succ, List.getElem_cons_zero, Act.put, List.setIfInBounds_toArray, List.set_cons_zero, List.set_cons_succ]
      refine anyU_ready (rs := [4]) (by kernel_rfl) (by simp) ?_
      refine ReadyU.cons (i := 4) rfl (fun K hK => ?_) ReadyU.nil
      simp only [List.getElem_toArray, List.getElem_cons_succ, List.getElem_cons_zero]
      refine ite_is (by rfl) ?_
      simp [go_sem]
      refine hK.out _ _ ⟨fun _ => ⟨((HF4.out.boxN bx1 (by omega)).still (grown_alloc _ _)).cell 0 (by simp), ((HF4.out.boxN bx1 (by omega)).still (grown_alloc _ _)).cell 1 (by simp), ((HF4.out.boxN bx1 (by omega)).still (grown_alloc _ _)).cell 2 (by simp), ((HF4.out.boxN bx1 (by omega)).still (grown_alloc _ _)).cell 3 (by simp)⟩, ?_⟩
      clear hK K hS5
      try simp only [List.getElem_toArray, List.getElem_cons_succ, List.getElem_cons_zero, Act.put, List.setIfInBounds_toArray, List.set_cons_zero, List.set_cons_succ]
      refine nameU ?_
      intro W6 HW6
      have hg6 : W4.grownBy W6 none := by rw [HW6.out]; exact grown_alloc _ _
      have hs6 := hg6.size
      have HF6 := Lib.hid (HF4.out.still hg6); clear HF4
      have R6 := Lib.hid (IntS.still R4.out hg6 (by omega)); clear R4
      have HL := Lib.hid (show IntS W6 W4.heap.size (W4.heap.size + 1) (.slice (some ⟨W4.heap.size, 0, none⟩) 1 1) [(k : Int)] by rw [HW6.out]; exact IntS.newN W4 [(k : Int)] _ rfl (by simp))
      have hzl : W4.heap.size + 1 ≤ W6.heap.size := by rw [HW6.out]; simp
      clear HW6
      have hS7 : W6.cell? ⟨w.heap.size, 0, none⟩ = some (.int .i64 P.L) ∧ W6.cell? ⟨w.heap.size, 1, none⟩ = some (.int .i64 P.D) ∧ W6.cell? ⟨w.heap.size, 2, none⟩ = some (.slice A1 P.nodes.length c1) ∧ W6.cell? ⟨w.heap.size, 3, none⟩ = some (.slice A1' P.edges.length c1') := ⟨(HF6.out.boxN bx1 (by omega)).cell 0 (by simp), (HF6.out.boxN bx1 (by omega)).cell 1 (by simp), (HF6.out.boxN bx1 (by omega)).cell 2 (by simp), (HF6.out.boxN bx1 (by omega)).cell 3 (by simp)⟩
      refine anyU_ready (rs := [5]) (by kernel_rfl) (by simp) ?_
      refine ReadyU.cons (i := 5) rfl (fun K hK => ?_) ReadyU.nil
      simp only [List.getElem_toArray, List.getElem_cons_succ, List.getElem_cons_zero]
      refine ite_is (by rfl) ?_
      simp [go_sem]
      refine (isGoodPair_any _ P _ _ _ (ascI n f) _ _ _ [(k : Int)] _ _ _ (Pro.turned G1.out HF6.out (by omega) (by omega)) (by omega) R6.out (by omega) HL.out (by omega) HG.out).mono ?_
      rintro e W8 ⟨rfl, hb8⟩
      have hg8 := grown_below hb8; clear hb8
      have hs8 := hg8.size
      have HF8 := Lib.hid (HF6.out.still hg8); clear HF6
      have R8 := Lib.hid (IntS.still R6.out hg8 (by omega)); clear R6
      have L8 := Lib.hid (IntS.still HL.out hg8 (by omega)); clear HL
      have hS9 : W8.cell? ⟨w.heap.size, 0, none⟩ = some (.int .i64 P.L) ∧ W8.cell? ⟨w.heap.size, 1, none⟩ = some (.int .i64 P.D) ∧ W8.cell? ⟨w.heap.size, 2, none⟩ = some (.slice A1 P.nodes.length c1) ∧ W8.cell? ⟨w.heap.size, 3, none⟩ = some (.slice A1' P.edges.length c1') := ⟨(HF8.out.boxN bx1 (by omega)).cell 0 (by simp), (HF8.out.boxN bx1 (by omega)).cell 1 (by simp), (HF8.out.boxN bx1 (by omega)).cell 2 (by simp), (HF8.out.boxN bx1 (by omega)).cell 3 (by simp)⟩
      refine hK.out _ _ ⟨fun _ => hS9, ?_⟩
      clear hK K hS7
      try simp only [List.getElem_toArray, List.getElem_cons_succ, List.getElem_cons_zero, Act.put, List.setIfInBounds_toArray, List.set_cons_zero, List.set_cons_succ]
      clear hS9
      refine anyU_done (by kernel_rfl) ?_ _
      obtain ⟨g, HGF⟩ : ∃ g : Nat → Bool, Hid (g = fun b : Nat => pairsB P (ascI n f) [(b : Int)]) := ⟨_, Lib.hid rfl⟩
      rw [← HGF.out] at HS
      obtain ⟨z, HZ⟩ : ∃ z, Hid (g k = z) := ⟨_, Lib.hid rfl⟩
      have HZ2 := Lib.hid (show pairsB P (ascI n f) [(k : Int)] = z by rw [← HZ.out, HGF.out])
      rw [HZ2.out]
      have hs4 : s < 4096 := by rw [← HS.out]; exact setOf_12 (by omega) _
      have hor := orPow s k hs4 (by omega)
      cases z with
      | false =>
        have HSN := Lib.hid (show setOf (k + 1) g = s by show setOf k g + (if g k = true then 2 ^ k else 0) = s; rw [HZ.out, HS.out]; simp)
        clear hor
        go_wp2_with fail
        go_roundw
        case rel => exact ⟨k + 1, s, by omega, rfl, by go_num, Lib.hid (by rw [← HGF.out]; exact HSN.out), HF8⟩
        case measure => simp [intOf]; omega
      | true =>
        have HOX := Lib.hid (show setOf (k + 1) g = s ||| 2 ^ k from (orSet HZ.out HS.out).symm)
        obtain ⟨y, HY⟩ : ∃ y, Hid (s ||| 2 ^ k = y) := ⟨_, Lib.hid rfl⟩
        rw [HY.out] at hor HOX
        go_wp2_with fail
        go_roundw
        case rel => exact ⟨k + 1, y, by omega, rfl, by go_num, Lib.hid (by rw [← HGF.out]; exact HOX.out), HF8⟩
        case measure => simp [intOf]; omega
    · skip
      simp only [List.getElem_toArray, List.getElem_cons_succ, List.getElem_cons_zero]
      refine ite_is (by rfl) ?_
      simp [go_sem]
      refine hK.out _ _ ⟨fun _ => ⟨((HF2.out.boxN bx1 (by omega)).still (grown_alloc _ _)).cell 0 (by simp), ((HF2.out.boxN bx1 (by omega)).still (grown_alloc _ _)).cell 1 (by simp), ((HF2.out.boxN bx1 (by omega)).still (grown_alloc _ _)).cell 2 (by simp), ((HF2.out.boxN bx1 (by omega)).still (grown_alloc _ _)).cell 3 (by simp)⟩, ?_⟩
      clear hK K hS3
      try simp only [List.getElem_toArray, List.getElem_cons_succ, List.getElem_cons_zero, Act.put, List.setIfInBounds_toArray, List.set_cons_zero, List.set_cons_succ]
      refine nameU ?_
      intro W10 HW10
      have hg10 : W2.grownBy W10 none := by rw [HW10.out]; exact grown_alloc _ _
      have hs10 := hg10.size
      have HF10 := Lib.hid (HF2.out.still hg10); clear HF2
      have HL := Lib.hid (show IntS W10 W2.heap.size (W2.heap.size + 1) (.slice (some ⟨W2.heap.size, 0, none⟩) 1 1) [(k : Int)] by rw [HW10.out]; exact IntS.newN W2 [(k : Int)] _ rfl (by simp))
      have hzl : W2.heap.size + 1 ≤ W10.heap.size := by rw [HW10.out]; simp
      clear HW10
      have hS11 : W10.cell? ⟨w.heap.size, 0, none⟩ = some (.int .i64 P.L) ∧ W10.cell? ⟨w.heap.size, 1, none⟩ = some (.int .i64 P.D) ∧ W10.cell? ⟨w.heap.size, 2, none⟩ = some (.slice A1 P.nodes.length c1) ∧ W10.cell? ⟨w.heap.size, 3, none⟩ = some (.slice A1' P.edges.length c1') := ⟨(HF10.out.boxN bx1 (by omega)).cell 0 (by simp), (HF10.out.boxN bx1 (by omega)).cell 1 (by simp), (HF10.out.boxN bx1 (by omega)).cell 2 (by simp), (HF10.out.boxN bx1 (by omega)).cell 3 (by simp)⟩
      refine anyU_ready (rs := [2]) (by kernel_rfl) (by simp) ?_
      refine ReadyU.cons (i := 2) rfl (fun K hK => ?_) ReadyU.nil
      simp only [List.getElem_toArray, List.getElem_cons_succ, List.getElem_cons_zero]
      refine ite_is (by rfl) ?_
      simp [go_sem]
      refine (labelsIn_any m _ n f HMS.out (by omega)).mono ?_
      rintro e W12 ⟨r, rfl, hr, hb12⟩
      have hg12 := grown_below hb12; clear hb12
      have hs12 := hg12.size
      have HF12 := Lib.hid (HF10.out.still hg12); clear HF10
      have L12 := Lib.hid (IntS.still HL.out hg12 (by omega)); clear HL
      have R12 := Lib.hid hr; clear hr
      have hS13 : W12.cell? ⟨w.heap.size, 0, none⟩ = some (.int .i64 P.L) ∧ W12.cell? ⟨w.heap.size, 1, none⟩ = some (.int .i64 P.D) ∧ W12.cell? ⟨w.heap.size, 2, none⟩ = some (.slice A1 P.nodes.length c1) ∧ W12.cell? ⟨w.heap.size, 3, none⟩ = some (.slice A1' P.edges.length c1') := ⟨(HF12.out.boxN bx1 (by omega)).cell 0 (by simp), (HF12.out.boxN bx1 (by omega)).cell 1 (by simp), (HF12.out.boxN bx1 (by omega)).cell 2 (by simp), (HF12.out.boxN bx1 (by omega)).cell 3 (by simp)⟩
      refine hK.out _ _ ⟨fun _ => hS13, ?_⟩
      clear hK K hS11
      try simp only [List.getElem_toArray, List.getElem_cons_succ, List.getElem_cons_zero, Act.put, List.setIfInBounds_toArray, List.set_cons_zero, List.set_cons_succ]
      refine anyU_ready (rs := [5]) (by kernel_rfl) (by simp) ?_
      refine ReadyU.cons (i := 5) rfl (fun K hK => ?_) ReadyU.nil
      simp only [List.getElem_toArray, List.getElem_cons_succ, List.getElem_cons_zero]
      refine ite_is (by rfl) ?_
      simp [go_sem]
      refine (isGoodPair_any _ P _ _ _ (ascI n f) _ _ _ [(k : Int)] _ _ _ (Pro.turned G1.out HF12.out (by omega) (by omega)) (by omega) R12.out (by omega) L12.out (by omega) HG.out).mono ?_
      rintro e W14 ⟨rfl, hb14⟩
      have hg14 := grown_below hb14; clear hb14
      have hs14 := hg14.size
      have HF14 := Lib.hid (HF12.out.still hg14); clear HF12
      have L14 := Lib.hid (IntS.still L12.out hg14 (by omega)); clear L12
      have R14 := Lib.hid (IntS.still R12.out hg14 (by omega)); clear R12
      have hS15 : W14.cell? ⟨w.heap.size, 0, none⟩ = some (.int .i64 P.L) ∧ W14.cell? ⟨w.heap.size, 1, none⟩ = some (.int .i64 P.D) ∧ W14.cell? ⟨w.heap.size, 2, none⟩ = some (.slice A1 P.nodes.length c1) ∧ W14.cell? ⟨w.heap.size, 3, none⟩ = some (.slice A1' P.edges.length c1') := ⟨(HF14.out.boxN bx1 (by omega)).cell 0 (by simp), (HF14.out.boxN bx1 (by omega)).cell 1 (by simp), (HF14.out.boxN bx1 (by omega)).cell 2 (by simp), (HF14.out.boxN bx1 (by omega)).cell 3 (by simp)⟩
      refine hK.out _ _ ⟨fun _ => hS15, ?_⟩
      clear hK K hS13
      try simp only [List.getElem_toArray, List.getElem_cons_succ, List.getElem_cons_zero, Act.put, List.setIfInBounds_toArray, List.set_cons_zero, List.set_cons_succ]
      clear hS15
      refine anyU_done (by kernel_rfl) ?_ _
      obtain ⟨g, HGF⟩ : ∃ g : Nat → Bool, Hid (g = fun b : Nat => pairsB P (ascI n f) [(b : Int)]) := ⟨_, Lib.hid rfl⟩
      rw [← HGF.out] at HS
      obtain ⟨z, HZ⟩ : ∃ z, Hid (g k = z) := ⟨_, Lib.hid rfl⟩
      have HZ2 := Lib.hid (show pairsB P (ascI n f) [(k : Int)] = z by rw [← HZ.out, HGF.out])
      rw [HZ2.out]
      have hs4 : s < 4096 := by rw [← HS.out]; exact setOf_12 (by omega) _
      have hor := orPow s k hs4 (by omega)
      cases z with
      | false =>
        have HSN := Lib.hid (show setOf (k + 1) g = s by show setOf k g + (if g k = true then 2 ^ k else 0) = s; rw [HZ.out, HS.out]; simp)
        clear hor
        go_wp2_with fail
        go_roundw
        case rel => exact ⟨k + 1, s, by omega, rfl, by go_num, Lib.hid (by rw [← HGF.out]; exact HSN.out), HF14⟩
        case measure => simp [intOf]; omega
      | true =>
        have HOX := Lib.hid (show setOf (k + 1) g = s ||| 2 ^ k from (orSet HZ.out HS.out).symm)
        obtain ⟨y, HY⟩ : ∃ y, Hid (s ||| 2 ^ k = y) := ⟨_, Lib.hid rfl⟩
        rw [HY.out] at hor HOX
        go_wp2_with fail
        go_roundw
        case rel => exact ⟨k + 1, y, by omega, rfl, by go_num, Lib.hid (by rw [← HGF.out]; exact HOX.out), HF14⟩
        case measure => simp [intOf]; omega

end Go.Proofs.YtkcbocoimbhhaaaGreat

/- Contracts: the first choice of labels from lists that a test takes. -/
namespace Go.Proofs.YtkcbocoimbhhaaaGreat
open Go.ChangeShapes Go.WideShapes Go.ChangeAt Go.RowKit
set_option linter.unusedVariables false

/-- the first choice from lists behind a prefix that a test takes -/
def firstC (good : List Int → Bool) : List (List Int) → List Int → Option (List Int)
  | [], pre => if good pre then some pre else none
  | l :: ls, pre => l.findSome? fun a => firstC good ls (pre ++ [a])
theorem findSome_hit {α : Type} {f : Int → Option α} {r : α} : ∀ {l : List Int} {j : Nat} (hj : j < l.length) (hb : ∀ i, i < j → f (nth l i) = none) (h : f (nth l j) = some r), l.findSome? f = some r
  | [], j, hj, _, _ => absurd hj (by simp)
  | x :: xs, 0, _, _, h => by rw [List.findSome?_cons]; rw [show nth (x :: xs) 0 = x by rfl] at h; rw [h]
  | x :: xs, j + 1, hj, hb, h => by
    rw [List.findSome?_cons, show f x = none by have := hb 0 (by omega); exact this]
    exact findSome_hit (j := j) (by simpa using hj) (fun i hi => hb (i + 1) (by omega)) h
theorem findSome_no {α : Type} {f : Int → Option α} {l : List Int} (h : ∀ i, i < l.length → f (nth l i) = none) : l.findSome? f = none := by
  rw [List.findSome?_eq_none_iff]
  intro x hx
  obtain ⟨i, hi, e⟩ := List.mem_iff_getElem.1 hx
  have := h i hi
  rw [nth_eq hi, e] at this
  exact this
theorem firstC_at {good : List Int → Bool} {lists : List (List Int)} {k : Nat} (hk : k < lists.length) (pre : List Int) : firstC good (lists.drop k) pre = (nthL lists k).findSome? fun a => firstC good (lists.drop (k + 1)) (pre ++ [a]) := by
  rw [List.drop_eq_getElem_cons hk, nthL_eq hk]; rfl
theorem firstC_end {good : List Int → Bool} {lists : List (List Int)} {k : Nat} (hk : lists.length ≤ k) (pre : List Int) : firstC good (lists.drop k) pre = if good pre then some pre else none := by
  rw [List.drop_eq_nil_of_le hk]; rfl
theorem firstC_len {good : List Int → Bool} {r : List Int} : ∀ {lists : List (List Int)} {pre : List Int}, firstC good lists pre = some r → r.length = pre.length + lists.length
  | [], pre, h => by
    unfold firstC at h
    split at h
    · injection h with h; subst h; simp
    · cases h
  | l :: ls, pre, h => by
    unfold firstC at h
    obtain ⟨a, _, ha⟩ := List.exists_of_findSome?_eq_some h
    have := firstC_len ha
    simp at this ⊢; omega
theorem take_set_snoc {zs : List Int} {k n : Nat} (h : zs.length = n) (hk : k < n) (a : Int) : (zs.set k a).take (k + 1) = zs.take k ++ [a] := by
  rw [List.take_add_one]
  congr 1
  · rw [List.take_set_of_le (Nat.le_refl _)]
  · rw [List.getElem?_set_self (by omega)]; rfl
theorem take_le {zs pre : List Int} {a : Int} {k : Nat} (h : zs.take (k + 1) = pre ++ [a]) (hl : pre.length = k) : zs.take k = pre := by
  have h2 : (zs.take (k + 1)).take k = zs.take k := by rw [List.take_take, Nat.min_eq_left (by omega)]
  rw [← h2, h]
  exact List.take_left' hl
set_option maxHeartbeats 4000000 in
set_option maxRecDepth 100000 in
theorem fill_any (fg : Nat) (caps : Array Value) (eg : ∀ args w, (callFunc fg args).run Tryz.prog w = .ok (.enter fg args) w) (good : List Int → Bool) (lists : List (List Int)) (A : Option Addr) (c lo hi : Nat) (w0 : World) (g b1 b2 b3 b4 n : Nat)
    (hn : lists.length = n) (hn63 : n ≤ 9223372036854775807) (hL : IntSS w0 lo hi (.slice A n c) lists) (hhi : hi ≤ g) (hgs : g < w0.heap.size)
    (h1 : BoxN w0 b1 #[.slice A n c] 22) (h2 : BoxN w0 b2 #[.func (.func fg) #[] caps] 60) (h3 : BoxN w0 b3 #[.slice (some ⟨g, 0, none⟩) n n] 26) (h4 : BoxN w0 b4 #[.func (.func 65) #[] #[.pointer (some ⟨b1, 0, none⟩), .pointer (some ⟨b2, 0, none⟩), .pointer (some ⟨b3, 0, none⟩), .pointer (some ⟨b4, 0, none⟩)]] 87)
    (n1 : b1 < g ∨ g + 1 ≤ b1) (n2 : b2 < g ∨ g + 1 ≤ b2) (n3 : b3 < g ∨ g + 1 ≤ b3) (n4 : b4 < g ∨ g + 1 ≤ b4)
    (hgood : ∀ W zs, Turned g (g + 1) w0 W → IntS W g (g + 1) (.slice (some ⟨g, 0, none⟩) n n) zs → zs.length = n → Calls Tryz.prog fg (#[.slice (some ⟨g, 0, none⟩) n n] ++ caps) W fun e w' => e = .returned (.bool (good zs)) ∧ Below W.heap.size W w') :
    ∀ (m k : Nat) (pre zs : List Int) (W : World) (hm : n - k = m) (hk : k ≤ n) (hT : Turned g (g + 1) w0 W) (hI : IntS W g (g + 1) (.slice (some ⟨g, 0, none⟩) n n) zs) (hz : zs.length = n) (hp : zs.take k = pre),
    Calls Tryz.prog 65 #[.int .i64 (k : Nat), .pointer (some ⟨b1, 0, none⟩), .pointer (some ⟨b2, 0, none⟩), .pointer (some ⟨b3, 0, none⟩), .pointer (some ⟨b4, 0, none⟩)] W fun e w' => ∃ zs', e = .returned (.bool (firstC good (lists.drop k) pre).isSome) ∧ IntS w' g (g + 1) (.slice (some ⟨g, 0, none⟩) n n) zs' ∧ zs'.length = n ∧ zs'.take k = pre ∧ (∀ r, firstC good (lists.drop k) pre = some r → zs' = r) ∧ Turned g (g + 1) w0 w' := by
  intro m
  induction m using Nat.strongRecOn with
  | ind m ih =>
  intro k pre zs W hm hk hT hI hz hp
  have IH := Lib.hid ih; clear ih
  have HM := Lib.hid hm; clear hm
  have HT := Lib.hid hT; clear hT
  have HI := Lib.hid hI; clear hI
  have HZ := Lib.hid hz; clear hz
  have HP := Lib.hid hp; clear hp
  have HGD := Lib.hid hgood; clear hgood
  have HN := Lib.hid hn; clear hn
  have HL := Lib.hid hL; clear hL
  have H1 := Lib.hid h1; have H2 := Lib.hid h2; have H3 := Lib.hid h3; have H4 := Lib.hid h4
  clear h1 h2 h3 h4
  have hs0 := HT.out.size
  have eg4 := enters_of Tryz.func65 (by kernel_rfl) rfl
  have q1 : W.cell? ⟨b1, 0, none⟩ = some (.slice A n c) := (HT.out.boxN H1.out n1).cell 0 (by simp)
  have q2 : W.cell? ⟨b2, 0, none⟩ = some (.func (.func fg) #[] caps) := (HT.out.boxN H2.out n2).cell 0 (by simp)
  have q3 : W.cell? ⟨b3, 0, none⟩ = some (.slice (some ⟨g, 0, none⟩) n n) := (HT.out.boxN H3.out n3).cell 0 (by simp)
  by_cases hkn : k = n
  case pos =>
    subst hkn
    have HC := Lib.hid (HGD.out W zs HT.out HI.out HZ.out)
    have HPZ := Lib.hid (show zs = pre by rw [← HP.out]; exact (List.take_of_length_le (by rw [HZ.out]; exact Nat.le_refl _)).symm)
    have HF := Lib.hid (firstC_end (good := good) (show lists.length ≤ k by rw [HN.out]; exact Nat.le_refl _) pre)
    obtain ⟨q, HQ⟩ : ∃ q, Hid (good zs = q) := ⟨_, Lib.hid rfl⟩
    rw [HQ.out] at HC
    go_enter Tryz.func65, Tryz.ntmps65
    go_wp2_with (go_at_fn fg; refine HC.out.mono ?_; rintro e W1 ⟨rfl, hb1⟩)
    have hg1 := grown_below hb1
    go_ret
    have e1 : firstC good (lists.drop k) pre = if q = true then some zs else none := by rw [HF.out, ← HPZ.out, HQ.out]
    refine ⟨zs, ?_, IntS.still HI.out hg1 (by omega), HZ.out, HP.out, fun r hr => ?_, HT.out.still hg1⟩
    · rw [e1]; cases q <;> rfl
    · rw [e1] at hr
      cases q
      · cases hr
      · injection hr
  have hkl : k < n := by omega
  have hkli : (k : Int) < n := by omega
  have hki : ¬ ((k : Int) = n) := by omega
  obtain ⟨br, or, ur, rfl, _, hbr, zr, hur⟩ := SS.opened HL.out (show k < lists.length by rw [HN.out]; exact hkl)
  replace zr := (HT.out.cell (by omega) (by omega)).trans zr
  obtain ⟨Ar, cr, rfl, hcr, hdr⟩ := hur.dims
  have HUR := Lib.hid hur; clear hur
  obtain ⟨row, HROW⟩ : ∃ r, Hid (nthL lists k = r) := ⟨_, Lib.hid rfl⟩
  rw [HROW.out] at HUR zr hcr
  have HF := Lib.hid (firstC_at (good := good) (show k < lists.length by rw [HN.out]; exact hkl) pre)
  rw [HROW.out] at HF
  have hpl : pre.length = k := by rw [← HP.out, List.length_take, HZ.out]; omega
  go_enter Tryz.func65, Tryz.ntmps65
  go_wp2_with fail
  clear q1 q2 q3 zr
  go_loopw [21] (fun iv wr => ∃ (j : Nat) (zs : List Int), j ≤ row.length ∧ iv = .int .i64 j ∧ Hid (IntS wr g (g + 1) (.slice (some ⟨g, 0, none⟩) n n) zs) ∧ Hid (zs.length = n) ∧ Hid (zs.take k = pre) ∧ Hid (∀ i, i < j → firstC good (lists.drop (k + 1)) (pre ++ [nth row i]) = none) ∧ Hid (Turned g (g + 1) w0 wr)) (fun iv _ => row.length - (intOf iv).toNat)
  case atStart => exact ⟨0, zs, Nat.zero_le _, rfl, HI, HZ, HP, Lib.hid (fun i hi => absurd hi (by omega)), HT⟩
  case round =>
    clear HI HZ HP HT hs0
    obtain ⟨j, zs, hj, rfl, HI, HZ, HP, HNO, HT⟩ := hrel
    have hs0 := HT.out.size
    obtain ⟨ws, rfl⟩ : ∃ ws : World, ws = wr := ⟨_, rfl⟩
    by_cases hjl : j < row.length
    case neg =>
      have HFN := Lib.hid (show firstC good (lists.drop k) pre = none by rw [HF.out]; exact findSome_no fun i hi => HNO.out i (by omega))
      go_wp2_with fail
      go_ret
      exact ⟨zs, by rw [HFN.out]; rfl, HI.out, HZ.out, HP.out, fun r hr => (by rw [HFN.out] at hr; cases hr), HT.out⟩
    obtain ⟨bx, ox, rfl, _, hbx, xx, _⟩ := (IntS.turned HUR.out HT.out (by omega) (by omega)).opened (j := j) hjl
    obtain ⟨a, HA⟩ : ∃ a, Hid (nth row j = a) := ⟨_, Lib.hid rfl⟩
    rw [HA.out] at xx
    have hji : (j : Int) < row.length := by omega
    have q3 : ws.cell? ⟨b3, 0, none⟩ = some (.slice (some ⟨g, 0, none⟩) n n) := (HT.out.boxN H3.out n3).cell 0 (by simp)
    obtain ⟨y1, y2⟩ := HI.out.at0 (j := k) (by rw [HZ.out]; exact hkl)
    go_upto_region 7 with (fail)
    refine nameC ?_
    intro WS HWS
    have HIS := Lib.hid (show IntS WS g (g + 1) (.slice (some ⟨g, 0, none⟩) n n) (zs.set k a) by rw [HWS.out]; exact HI.out.set0 (by rw [HZ.out]; exact hkl) a)
    have HTS := Lib.hid (show Turned g (g + 1) w0 WS by rw [HWS.out]; exact HT.out.setCell (Nat.le_refl _) (Nat.lt_succ_self _) _)
    clear HWS y1 y2 q3 xx
    have q4 : WS.cell? ⟨b4, 0, none⟩ = some (.func (.func 65) #[] #[.pointer (some ⟨b1, 0, none⟩), .pointer (some ⟨b2, 0, none⟩), .pointer (some ⟨b3, 0, none⟩), .pointer (some ⟨b4, 0, none⟩)]) := (HTS.out.boxN H4.out n4).cell 0 (by simp)
    have HCALL := Lib.hid (IH.out (n - (k + 1)) (by have := HM.out; omega) (k + 1) (pre ++ [a]) (zs.set k a) WS rfl (by omega) HTS.out HIS.out (by rw [List.length_set]; exact HZ.out) (by rw [take_set_snoc HZ.out hkl, HP.out]))
    have hw1 : IntKind.i64.wrap ((k : Int) + 1) = ((k + 1 : Nat) : Int) := by rw [IntWalk.i64_in _ (by omega)]; omega
    cases hf : firstC good (lists.drop (k + 1)) (pre ++ [a]) with
    | some r =>
      rw [hf] at HCALL
      have HFN := Lib.hid (show firstC good (lists.drop k) pre = some r by rw [HF.out]; exact findSome_hit hjl HNO.out (by rw [HA.out]; exact hf))
      clear hf
      go_wp2_with (first | go_at_fn 65 | go_at_call 65; refine HCALL.out.mono ?_; rintro e W2 ⟨zs2, rfl, hi2, hz2, hp2, hr2, ht2⟩; simp only [Option.isSome_some])
      go_ret
      exact ⟨zs2, by rw [HFN.out]; rfl, hi2, hz2, take_le hp2 hpl, fun r' hr => (by rw [HFN.out] at hr; exact hr2 r' hr), ht2⟩
    | none =>
      rw [hf] at HCALL
      have HFN := Lib.hid (below_succY (p := fun i => firstC good (lists.drop (k + 1)) (pre ++ [nth row i]) = none) HNO.out (by rw [HA.out]; exact hf))
      clear hf
      go_wp2_with (first | go_at_fn 65 | go_at_call 65; refine HCALL.out.mono ?_; rintro e W2 ⟨zs2, rfl, hi2, hz2, hp2, hr2, ht2⟩; simp only [Option.isSome_none])
      go_roundw
      case rel => exact ⟨j + 1, zs2, by omega, by go_num, Lib.hid hi2, Lib.hid hz2, Lib.hid (take_le hp2 hpl), HFN, Lib.hid ht2⟩
      case measure => simp [intOf]; omega

end Go.Proofs.YtkcbocoimbhhaaaGreat

/- Contract of firstChoice. -/
namespace Go.Proofs.YtkcbocoimbhhaaaGreat
open Go.ChangeShapes Go.WideShapes Go.ChangeAt Go.RowKit
set_option linter.unusedVariables false

set_option maxHeartbeats 4000000 in
set_option maxRecDepth 100000 in
theorem firstChoice_any (fg : Nat) (caps : Array Value) (eg : ∀ args w, (callFunc fg args).run Tryz.prog w = .ok (.enter fg args) w) (good : List Int → Bool) (v1 : Value) (lists : List (List Int)) (lo hi : Nat) (w : World) (n : Nat) (h1 : IntSS w lo hi v1 lists) (hh1 : hi ≤ w.heap.size) (hn : lists.length = n) (hnb : n ≤ 1000000)
    (hgood : ∀ g W zs, Below w.heap.size w W → w.heap.size ≤ g → g < W.heap.size → IntS W g (g + 1) (.slice (some ⟨g, 0, none⟩) n n) zs → zs.length = n → Calls Tryz.prog fg (#[.slice (some ⟨g, 0, none⟩) n n] ++ caps) W fun e w' => e = .returned (.bool (good zs)) ∧ Below W.heap.size W w') :
    Calls Tryz.prog 31 #[v1, .func (.func fg) #[] caps] w fun e w' => ∃ r, e = .returned (.tuple #[r, .bool (firstC good lists []).isSome]) ∧ (∀ l, firstC good lists [] = some l → IntS w' w.heap.size w'.heap.size r l) ∧ Below w.heap.size w w' := by
  obtain ⟨A, c, rfl, hc, hd⟩ := h1.dims
  have H1 := Lib.hid h1; clear h1
  rw [hn] at H1 hc
  rw [hn]
  have HN := Lib.hid hn; clear hn
  have HGD := Lib.hid hgood; clear hgood
  have eg4 := enters_of Tryz.func65 (by kernel_rfl) rfl
  go_enter Tryz.func31, Tryz.ntmps31
  go_upto_region 1 with (fail)
  refine nameC ?_
  intro WA HWA
  have b1 : BoxN WA w.heap.size #[.slice A n c] 22 := by rw [HWA.out]; exact (BoxN.new' _ _ _ rfl).still (grown_alloc _ _)
  have b2 : BoxN WA (w.heap.size + 1) #[.func (.func fg) #[] caps] 60 := by rw [HWA.out]; exact BoxN.new' _ _ _ (by simp)
  have hbA : Below w.heap.size w WA := by rw [HWA.out]; exact ((Below.refl _ _).alloc (Nat.le_refl _) _).alloc (by simp; try omega) _
  have hzA : WA.heap.size = w.heap.size + 2 := by rw [HWA.out]; simp
  clear HWA
  have q1 : WA.cell? ⟨w.heap.size, 0, none⟩ = some (.slice A n c) := b1.cell 0 (by simp)
  have hmk := fun W => run_make_row' (P := Tryz.prog) 26 3 (.int .i64 0) 8 Tryz.underlying26 Tryz.info3 rfl .i64 .i64 n (by omega) (by omega) W
  go_upto_region 2 with (fail)
  refine nameC ?_
  intro WB HWB
  clear hmk q1
  have HI := Lib.hid (show IntS WB (w.heap.size + 2) (w.heap.size + 2 + 1) (.slice (some ⟨(w.heap.size + 2), 0, none⟩) n n) (List.replicate n 0) by rw [HWB.out]; exact IntS.still (made_ints _ _ _ hzA (by omega)) (grown_alloc _ _) (by simp; omega))
  have b3 : BoxN WB (w.heap.size + 3) #[.slice (some ⟨(w.heap.size + 2), 0, none⟩) n n] 26 := by rw [HWB.out]; exact BoxN.new' _ _ _ (by simp; omega)
  have hgB : WA.grownBy WB none := by rw [HWB.out]; exact grownBy_trans (grown_alloc _ _) (grown_alloc _ _)
  have hzB : WB.heap.size = w.heap.size + 4 := by rw [HWB.out]; simp; omega
  clear HWB
  have b1' := b1.still hgB; have b2' := b2.still hgB
  have hbB : Below w.heap.size w WB := hbA.grown hgB (by omega) (fun g e => by cases e)
  clear b1 b2 hbA
  go_upto_region 3 with (fail)
  refine nameC ?_
  intro WD HWD
  have b4 : BoxN WD (w.heap.size + 4) #[.nilFunc] 87 := by rw [HWD.out]; exact BoxN.new' _ _ _ hzB
  have hgD : WB.grownBy WD none := by rw [HWD.out]; exact grown_alloc _ _
  have hzD : WD.heap.size = w.heap.size + 5 := by rw [HWD.out]; simp; omega
  clear HWD
  have HID := Lib.hid (IntS.still HI.out hgD (by omega))
  have b1 := b1'.still hgD; have b2 := b2'.still hgD; have b3' := b3.still hgD
  have hbD : Below w.heap.size w WD := hbB.grown hgD (by omega) (fun g e => by cases e)
  clear HI b1' b2' b3 hbB hgB hgD hzB
  have y1 : WD.cell? ⟨w.heap.size + 4, 0, none⟩ = some .nilFunc := b4.cell 0 (by simp); have y2 := b4.frozen 0
  have hst := fun (m : Mode) => run_store Tryz.prog WD ⟨w.heap.size + 4, 0, none⟩ (.func (.func 65) #[] #[.pointer (some ⟨w.heap.size, 0, none⟩), .pointer (some ⟨w.heap.size + 1, 0, none⟩), .pointer (some ⟨w.heap.size + 3, 0, none⟩), .pointer (some ⟨w.heap.size + 4, 0, none⟩)]) m rfl
  go_upto_region 4 with (fail)
  refine nameC ?_
  intro WC HWC
  have b4' : BoxN WC (w.heap.size + 4) #[.func (.func 65) #[] #[.pointer (some ⟨w.heap.size, 0, none⟩), .pointer (some ⟨w.heap.size + 1, 0, none⟩), .pointer (some ⟨w.heap.size + 3, 0, none⟩), .pointer (some ⟨w.heap.size + 4, 0, none⟩)]] 87 := by rw [HWC.out]; exact b4.set 0 _
  have hgC : WD.grownBy WC (some (w.heap.size + 4)) := by rw [HWC.out]; exact grown_set _ _ _
  have hzC : WC.heap.size = w.heap.size + 5 := by rw [HWC.out, size_setCell, hzD]
  clear HWC b4 y1 y2 hst
  have b1' := b1.far hgC (fun k e => by injection e; omega); have b2' := b2.far hgC (fun k e => by injection e; omega); have b3 := b3'.far hgC (fun k e => by injection e; omega)
  have hbC : Below w.heap.size w WC := hbD.grown hgC (by omega) (fun g e => by injection e; omega)
  have HIC := Lib.hid (IntS.far HID.out hgC (by omega) (fun k e => by injection e; omega))
  clear HID b1 b2 b3' hbD hgC
  have HF := Lib.hid (fill_any fg caps eg good lists A c lo hi WC (w.heap.size + 2) (w.heap.size) (w.heap.size + 1) (w.heap.size + 3) (w.heap.size + 4) n HN.out (by omega) (ISS.below H1.out hbC hh1) (by omega) (by omega) b1' b2' b3 b4' (.inl (by omega)) (.inl (by omega)) (.inr (by omega)) (.inr (by omega)) (fun W zs ht hi hz => HGD.out (w.heap.size + 2) W zs (ht.below_of hbC (by omega) (by omega)) (by omega) (by have := ht.size; omega) hi hz) n 0 [] (List.replicate n 0) WC (by omega) (by omega) (Turned.refl _ _ _) HIC.out (by simp) rfl)
  rw [List.drop_zero] at HF
  have q4 : WC.cell? ⟨w.heap.size + 4, 0, none⟩ = some (.func (.func 65) #[] #[.pointer (some ⟨w.heap.size, 0, none⟩), .pointer (some ⟨w.heap.size + 1, 0, none⟩), .pointer (some ⟨w.heap.size + 3, 0, none⟩), .pointer (some ⟨w.heap.size + 4, 0, none⟩)]) := b4'.cell 0 (by simp)
  have B3 := Lib.hid b3
  clear b1' b2' b3 b4' HIC
  cases hf : firstC good lists [] with
  | some r =>
    rw [hf] at HF
    have HFF := Lib.hid hf; clear hf
    go_wp2_with (first | go_at_fn 65 | go_at_call 65; refine HF.out.mono ?_; rintro e W2 ⟨zs2, rfl, hi2, hz2, hp2, hr2, ht2⟩; simp only [Option.isSome_some]; have HI2 := Lib.hid hi2; have HR2 := Lib.hid (hr2 r rfl); have HT2 := Lib.hid ht2; clear hi2 hp2 hr2 ht2 q4; have q3 : W2.cell? ⟨w.heap.size + 3, 0, none⟩ = some (.slice (some ⟨(w.heap.size + 2), 0, none⟩) n n) := (HT2.out.boxN B3.out (by omega)).cell 0 (by simp))
    go_ret2
    have hres : IntS W2 w.heap.size W2.heap.size (.slice (some ⟨(w.heap.size + 2), 0, none⟩) n n) r := by
      have := HI2.out.mono (lo' := w.heap.size) (hi' := W2.heap.size) (by omega) (by have := HT2.out.size; omega)
      rw [HR2.out] at this; exact this
    refine ⟨.slice (some ⟨(w.heap.size + 2), 0, none⟩) n n, by rw [HFF.out]; rfl, fun l hl => ?_, HT2.out.below_of hbC (by omega) (by omega)⟩
    rw [HFF.out] at hl
    injection hl with e
    subst e
    exact hres
  | none =>
    rw [hf] at HF
    have HFF := Lib.hid hf; clear hf
    go_wp2_with (first | go_at_fn 65 | go_at_call 65; refine HF.out.mono ?_; rintro e W2 ⟨zs2, rfl, hi2, hz2, hp2, hr2, ht2⟩; simp only [Option.isSome_none]; have HT2 := Lib.hid ht2; clear hi2 hp2 hr2 ht2 q4)
    go_ret2
    refine ⟨.slice none 0 0, by rw [HFF.out]; rfl, fun l hl => ?_, HT2.out.below_of hbC (by omega) (by omega)⟩
    rw [HFF.out] at hl
    cases hl

end Go.Proofs.YtkcbocoimbhhaaaGreat

/- Contracts: slices.Repeat, Grow and Concat at lists of numbers, by their cells. -/
namespace Go.Proofs.YtkcbocoimbhhaaaGreat
open Go.ChangeShapes Go.WideShapes Go.ChangeAt Go.RowKit
set_option linter.unusedVariables false

set_option maxRecDepth 100000 in
set_option maxHeartbeats 1000000 in
theorem repeatV_any (v : Value) (A0 : Option Addr) (n0 c0 : Nat) (n : Nat) (lo hi : Nat) (w : World) (h : Sl w lo hi 1 v 1 (fun _ => .slice A0 n0 c0)) (hhi : hi ≤ w.heap.size) (hn : n ≤ 1048576) :
    Calls Tryz.prog 53 #[v, .int .i64 n] w fun e w' => ∃ b off c, e = .returned (.slice (some ⟨b, off, none⟩) n c) ∧ Sl w' w.heap.size w'.heap.size 1 (.slice (some ⟨b, off, none⟩) n c) n (fun _ => .slice A0 n0 c0) ∧ Below w.heap.size w w' := by
  obtain ⟨A, c, rfl, hc1, hc2, hcell⟩ := h
  unfold maxLen at hc2
  obtain ⟨b, off, rfl, hb1, hb2, hcs⟩ := hcell (by simp)
  have hck := (hcs 0 (by simp)).1
  rw [Nat.add_zero] at hck
  clear hcell hcs
  have hmk := fun W => run_make_row' (P := Tryz.prog) 22 26 (.slice none 0 0) 24 Tryz.underlying22 Tryz.info26 rfl .i64 .i64 n (by omega) (by omega) W
  rcases Nat.eq_zero_or_pos n with h0 | h0
  · subst h0
    have hcp := fun ty W => run_copy_none (P := Tryz.prog) W 22 22 ty 26 (some ⟨w.heap.size, 0, none⟩) (some ⟨b, off, none⟩) 0 0 1 c Tryz.underlying22 (by kernel_rfl) (by simp)
    simp only [goInt] at hcp
    simp only [show ((0 : Nat) : Int) = 0 from rfl] at hmk
    go_enter Tryz.func53, Tryz.ntmps53
    go_wp2_with (go_at_call 80; refine (mul1_any 0 hn _).mono ?_; rintro e w' ⟨rfl, rfl⟩)
    go_loopw [8] (fun i wr => i = .int .i64 0 ∧ Below w.heap.size w wr) (fun _ _ => 0)
    case atStart => exact ⟨rfl, (Below.refl _ _).alloc (Nat.le_refl _) _⟩
    case round =>
      obtain ⟨rfl, hb⟩ := hrel
      go_wp2_with fail
      go_ret
      refine ⟨_, _, _, rfl, ?_, hb⟩
      exact ⟨_, 0, rfl, Nat.le_refl _, by simp, fun hp => absurd hp (by simp)⟩
  obtain ⟨W0, HW0⟩ : ∃ W0, Hid (W0 = w.alloc (.cells (madeCells #[.slice none 0 0] n) 26)) := ⟨_, Lib.hid rfl⟩
  have hr0 : W0.rowIs w.heap.size 26 n (fun _ => .slice none 0 0) := by rw [HW0.out]; exact World.rowIs_made w (.slice none 0 0) n 26
  have hb0 : Below w.heap.size w W0 := by rw [HW0.out]; exact (Below.refl _ _).alloc (Nat.le_refl _) _
  have hcp := fun ty => run_copy_cells (P := Tryz.prog) W0 22 22 ty 26 w.heap.size 0 n n ⟨b, off, none⟩ 1 c [.slice A0 n0 c0] Tryz.underlying22 (by kernel_rfl) (by show 1 = min 1 n; omega)
    (fun j u hj => by
      match j, hj with
      | 0, hj =>
        simp only [List.getElem?_cons_zero, Option.some.injEq] at hj
        subst hj
        exact (hb0.cell (p := ⟨b, off, none⟩) (by show b < _; omega)).trans hck)
    (fun j hj => by rw [Nat.zero_add, hr0.cell (by simp at hj; omega)]; rfl) (fun j hj => by rw [Nat.zero_add]; exact hr0.frozen j) (by simp [Value.oneCell'])
  rw [HW0.out] at hcp
  simp only [goInt, List.length_singleton] at hcp
  go_enter Tryz.func53, Tryz.ntmps53
  go_wp2_with (go_at_call 80; refine (mul1_any n hn _).mono ?_; rintro e w' ⟨rfl, rfl⟩)
  rw [← HW0.out]
  clear hcp hmk
  have hr1 : (W0.setCells w.heap.size 0 [.slice A0 n0 c0]).rowIs w.heap.size 26 n (fun j => if j < 1 then .slice A0 n0 c0 else .slice none 0 0) := (setCells_row hr0 _ 0).congr fun j hj => by
    by_cases e : j < 1
    · rw [if_pos (by simp; omega), if_pos e]; obtain rfl : j = 0 := by omega
      rfl
    · rw [if_neg (by simp; omega), if_neg e]
  go_loopw [8] (fun i wr => ∃ k : Nat, 1 ≤ k ∧ k ≤ n ∧ i = .int .i64 k ∧ wr.rowIs w.heap.size 26 n (fun j => if j < k then .slice A0 n0 c0 else .slice none 0 0) ∧ Below w.heap.size w wr) (fun i _ => n - (intOf i).toNat)
  case atStart => exact ⟨1, by omega, by omega, rfl, hr1, below_setCells hb0 (Nat.le_refl _) _ _⟩
  case round =>
    clear hr0 hr1 hb0 HW0
    obtain ⟨k, hk1, hk, rfl, hrow, hb⟩ := hrel
    by_cases hlt : k < n
    · have hcp := fun ty => run_copy_cells (P := Tryz.prog) wr.drew 22 22 ty 26 w.heap.size k (n - k) (n - k) ⟨w.heap.size, 0, none⟩ k n (List.replicate (min k (n - k)) (.slice A0 n0 c0)) Tryz.underlying22 (by kernel_rfl) (by simp [Nat.min_def])
        (fun j u hj => by
          rw [Addr.add_lit, Nat.zero_add]
          have hj2 : j < min k (n - k) := by have := (List.getElem?_eq_some_iff.1 hj).1; simpa using this
          have := hrow.cell (i := j) (by omega)
          rw [if_pos (by omega)] at this
          rw [List.getElem?_replicate, if_pos hj2] at hj
          rw [← hj]
          exact this)
        (fun j hj => by rw [show wr.drew.cell? _ = wr.cell? _ from rfl, hrow.cell (by simp at hj; omega)]; rfl) (fun j hj => hrow.frozen (k + j)) (fun u hu => by rw [List.eq_of_mem_replicate hu]; rfl)
      simp only [goInt, List.length_replicate] at hcp
      go_wp2_with fail
      have hmin : min k (n - k) ≤ n - k := by omega
      have hmin1 : 1 ≤ min k (n - k) := by omega
      generalize hq : min k (n - k) = q at hcp hmin hmin1
      clear hq
      go_region
      go_wp2_with fail
      go_roundw
      case rel =>
        refine ⟨k + q, by omega, by omega, by go_num, ?_, below_setCells (w := wr.drew) ⟨hb.os, hb.tape, hb.output, hb.size, hb.block⟩ (Nat.le_refl _) _ _⟩
        refine (setCells_row (w := wr.drew) hrow _ k).congr fun j hj => ?_
        rw [List.length_replicate]
        by_cases e : k ≤ j ∧ j < k + q
        · rw [if_pos e, if_pos (by omega)]; simp [List.getD_eq_getElem?_getD, show j - k < q by omega]
        · rw [if_neg e]
          by_cases e2 : j < k
          · rw [if_pos e2, if_pos (by omega)]
          · rw [if_neg e2, if_neg (by omega)]
      case measure => simp [intOf]; omega
    · obtain rfl : k = n := by omega
      go_wp2_with fail
      go_ret
      refine ⟨w.heap.size, 0, k, rfl, ?_, hb⟩
      exact (Sl.of_row hrow (Nat.le_refl _) (by omega) (Nat.le_refl _) (by unfold maxLen; omega)).congr fun j hj => by
        rw [if_pos (by omega)]

/-- append of a slice's elements, one cell each -/
theorem append_valsV {P : Program} {ops : Array Oper} {rest : List Oper} {o : Oper} {a : Act} {Q : Exit → Act → World → Prop} {t e : TypeId} {z : Value} {bytes : Nat}
    (ht : P.underlying t = some (.slice e)) (hinfo : (P.info? e).map (fun i => (i.zero, i.size, i.bytes)) = some (some z, 1, bytes)) (hz1 : z.cells.size = 1) (hby : bytes ≤ 64)
    (w : World) (hgd : o.guard = none) {s : Operand} (x : Operand) (ho : o.op = .call { callee := .builtin .append, args := #[s, x], argTypes := #[t, t] })
    {base : Nat} {v : Value} {xs : List Value} (hown : Own w base e v xs) (hs : a.eval s = v) {A : Option Addr} {m c : Nat} (ys : List Value) (hm : ys.length = m) (hx : a.eval x = .slice A m c)
    (hA : (A = none ∧ m = 0 ∧ c = 0) ∨ ∃ b off, A = some ⟨b, off, none⟩ ∧ ∀ j u, ys[j]? = some u → w.cell? ⟨b, off + j, none⟩ = some u)
    (h1 : ∀ u ∈ ys, u.oneCell' = true) (hlen : xs.length + m ≤ 1099511627776) (hbase : base ≤ w.heap.size)
    (h : ∀ v' w', Own w' base e v' (xs ++ ys) → w.grownBy w' v.ownBlock → (v'.ownBlock = v.ownBlock ∨ v'.ownBlock = some w.heap.size) → wpList P ops Q rest (a.put o.dst v') w') :
    wpList P ops Q (o :: rest) a w := by
  rcases hA with ⟨rfl, rfl, rfl⟩ | ⟨b, off, rfl, hc⟩
  · have hy : ys = [] := List.eq_nil_of_length_eq_zero hm
    subst hy
    obtain ⟨i, hi, hzz⟩ := Option.map_eq_some_iff.1 hinfo
    refine wpList_append_own_none hgd s x t ho base e i 1 ht hi v xs.length xs hs hown hx ?_
    exact h v w (by rw [List.append_nil]; exact hown) (World.grownBy.refl _ _) (.inl rfl)
  · refine append_row ht hinfo hz1 (by omega) hby w hgd x ho hown hs ys hx (by omega) ?_ h1 (by omega) hbase fun v' w' a1 a2 a3 => h v' w' ?_ a2 a3
    · intro j u hj
      rw [show (⟨b, off, none⟩ : Addr).add j = ⟨b, off + j, none⟩ from Go.WideShapes.add_plain b off j]
      exact hc j u hj
    · unfold Own
      rw [List.length_append, hm]
      exact a1
theorem zeroCellsV_size (u : Array Value) (n : Nat) : (Builtin.zeroCells u n).size = n * u.size := by simp [Builtin.zeroCells]

set_option maxHeartbeats 1000000 in
set_option maxRecDepth 100000 in
theorem growV_any (z : Int) (n : Nat) (hz : z = n) (w : World) (hn : n ≤ 2097152) :
    Calls Tryz.prog 79 #[.slice none 0 0, .int .i64 z] w fun e w' => ∃ r, e = .returned r ∧ Own w' w.heap.size 26 r [] ∧ Below w.heap.size w w' := by
  subst hz
  by_cases h0 : n = 0
  · subst h0
    go_enter Tryz.func79, Tryz.ntmps79
    go_wp2_with fail
    go_ret
    exact ⟨_, rfl, Own.nil _ _ _, Below.refl _ _⟩
  have hp : (0 : Int) < n := by omega
  have hp2 : ¬ ((n : Int) < 0) := by omega
  obtain ⟨i0, hi0, hzz0⟩ := Option.map_eq_some_iff.1 Tryz.info26
  simp only [Prod.mk.injEq] at hzz0
  obtain ⟨hz0, hs0, hb0⟩ := hzz0
  have hrun := fun ty => Lib.run_append_nil_zeros (P := Tryz.prog) w 22 3 ty 26 i0 _ .i64 _ Tryz.underlying22 Tryz.underlying3 hi0 hz0 n (by omega) (by omega) (by omega) (by rw [hb0]; omega)
  obtain ⟨cp, HC⟩ : ∃ c, Hid (grownCap w n 0 26 = c) := ⟨_, Lib.hid rfl⟩
  have hc1 := grownCap_ge w n 0 26
  have hc2 := grownCap_le_maxLen w n 0 26 (by unfold maxLen; omega)
  rw [HC.out] at hc1 hc2
  unfold maxLen at hc2
  simp only [HC.out] at hrun
  have HR := Lib.hid hrun
  clear hrun
  go_enter Tryz.func79, Tryz.ntmps79
  go_wp2_with (at_builtin; refine Lib.wpList_append_run _ rfl _ _ _ _ rfl _ _ rfl rfl _ _ (HR.out _) ?_)
  go_ret
  refine ⟨_, rfl, ?_, ((Below.refl _ _).drew).alloc (Nat.le_refl _) _⟩
  refine ⟨by simp, .inr ⟨w.heap.size, cp, _, rfl, Nat.le_refl _, heap_alloc_new w.drew _, Nat.zero_le _, by unfold maxLen; omega, ?_, by simp⟩⟩
  rw [Array.size_append, zeroCellsV_size, zeroCellsV_size]
  show n * 1 + (cp - n) * 1 = cp * 1
  omega

theorem slCells {w : World} {lo hi b off n c : Nat} {f : Nat → Value} (h : Sl w lo hi 1 (.slice (some ⟨b, off, none⟩) n c) n f) : ∀ j u, ((List.range n).map f)[j]? = some u → w.cell? ⟨b, off + j, none⟩ = some u := by
  intro j u hj
  have hjn : j < n := by have := (List.getElem?_eq_some_iff.1 hj).1; simpa using this
  rw [List.getElem?_map, List.getElem?_range hjn] at hj
  simp only [Option.map_some, Option.some.injEq] at hj
  rw [← hj]
  exact (h.at_ (by omega)).1
set_option maxHeartbeats 2000000 in
set_option maxRecDepth 100000 in
theorem concatV_any (g b1 o1 n k1 b2 o2 m k2 : Nat) (f1 f2 : Nat → Value) (l1 h1 l2 h2 : Nat) (w : World) (c0 : w.cell? ⟨g, 0, none⟩ = some (.slice (some ⟨b1, o1, none⟩) n k1)) (c1 : w.cell? ⟨g, 1, none⟩ = some (.slice (some ⟨b2, o2, none⟩) m k2)) (hg : g < w.heap.size)
    (r1 : Sl w l1 h1 1 (.slice (some ⟨b1, o1, none⟩) n k1) n f1) (hh1 : h1 ≤ w.heap.size) (r2 : Sl w l2 h2 1 (.slice (some ⟨b2, o2, none⟩) m k2) m f2) (hh2 : h2 ≤ w.heap.size) (hA : n ≤ 500000) (hB : m ≤ 500000)
    (q1 : ∀ u ∈ (List.range n).map f1, u.oneCell' = true) (q2 : ∀ u ∈ (List.range m).map f2, u.oneCell' = true) :
    Calls Tryz.prog 52 #[.slice (some ⟨g, 0, none⟩) 2 2] w fun e w' => ∃ r, e = .returned r ∧ Own w' w.heap.size 26 r ((List.range n).map f1 ++ (List.range m).map f2) ∧ Below w.heap.size w w' := by
  have F1 := Lib.hid r1
  have F2 := Lib.hid r2
  have Q1 := Lib.hid q1
  have Q2 := Lib.hid q2
  clear r1 r2 q1 q2
  have hp1 : ¬ ((n : Int) < 0) := by omega
  have hp2 : ¬ ((n : Int) + m < 0) := by omega
  go_enter Tryz.func52, Tryz.ntmps52
  go_wp2_with fail
  refine wp_loop_rounds 3 ?_
  rw [rounds_succ]
  go_wp2_with fail
  try rw [rounds_succ]
  go_wp2_with fail
  try rw [rounds_succ]
  go_wp2_with (go_at_call 79; refine (growV_any _ (n + m) (by go_num) _ (by omega)).mono ?_; rintro e w1 ⟨v0, rfl, ho, hb1⟩; have HO := Lib.hid ho; have hs1 := hb1.size; have d0 := (hb1.cell (p := ⟨g, 0, none⟩) hg).trans c0; have d1 := (hb1.cell (p := ⟨g, 1, none⟩) hg).trans c1; clear ho)
  have G1 := Lib.hid (slCells (F1.out.below hb1 hh1))
  refine wp_loop_rounds 3 ?_
  rw [rounds_succ]
  go_wp2_with (at_builtin; refine append_valsV (s := .tmp 31) Tryz.underlying22 Tryz.info26 rfl (by decide) w1 rfl (.tmp 32) rfl HO.out rfl ((List.range n).map f1) (by simp) rfl (.inr ⟨b1, o1, rfl, G1.out⟩) Q1.out (by simp; omega) hs1 ?_; intro v2 w2 ho2 hg2 _; have HO2 := Lib.hid ho2; have hb2 := hb1.grown hg2 hs1 (fun g hg => (HO.out.lt g hg).1); have hs2 := hb2.size; have e1 := (hb2.cell (p := ⟨g, 1, none⟩) hg).trans c1; have G2 := Lib.hid (slCells (F2.out.below hb2 hh2)); clear ho2)
  try rw [rounds_succ]
  go_wp2_with (at_builtin; refine append_valsV (s := .tmp 31) Tryz.underlying22 Tryz.info26 rfl (by decide) w2 rfl (.tmp 32) rfl HO2.out rfl ((List.range m).map f2) (by simp) rfl (.inr ⟨b2, o2, rfl, G2.out⟩) Q2.out (by simp; omega) hs2 ?_; intro v3 w3 ho3 hg3 _; have HO3 := Lib.hid ho3; have hb3 := hb2.grown hg3 hs2 (fun g hg => (HO2.out.lt g hg).1); clear ho3)
  try rw [rounds_succ]
  go_wp2_with fail
  go_ret
  refine ⟨_, rfl, ?_, hb3⟩
  have := HO3.out
  rwa [List.nil_append] at this
end Go.Proofs.YtkcbocoimbhhaaaGreat

/- Contracts: the choice of a node's labels (program). -/
namespace Go.Proofs.YtkcbocoimbhhaaaGreat
open Go.ChangeShapes Go.WideShapes Go.ChangeAt Go.RowKit
set_option linter.unusedVariables false

/-- labels are a configuration of the nodes -/
def nodeB (P : PrD) (zs : List Int) : Bool := decide (sortI zs ∈ P.nodes)
set_option maxHeartbeats 1000000 in
set_option maxRecDepth 100000 in
theorem nodeC1_any (v1 : Value) (zs : List Int) (lo1 hi1 b : Nat) (P : PrD) (A A' : Option Addr) (c c' lo hi : Nat) (w : World) (h1 : IntS w lo1 hi1 v1 zs) (hh1 : hi1 ≤ w.heap.size) (hP : Pro w lo hi (.agg #[.int .i64 P.L, .int .i64 P.D, .slice A P.nodes.length c, .slice A' P.edges.length c']) P) (hh : hi ≤ w.heap.size) (hb : BoxN w b #[.int .i64 P.L, .int .i64 P.D, .slice A P.nodes.length c, .slice A' P.edges.length c'] 34) (hg : P.good = true) (hx : zs.length ≤ 1000) :
    Calls Tryz.prog 81 #[v1, .pointer (some ⟨b, 0, none⟩)] w fun e w' => e = .returned (.bool (nodeB P zs)) ∧ Below w.heap.size w w' := by
  have F1 := Lib.hid h1; clear h1
  have FP := Lib.hid hP; clear hP
  obtain ⟨A1, c1, rfl, hc1, hd1⟩ := F1.out.dims
  have k0 : w.cell? ⟨b, 0, none⟩ = some (.int .i64 P.L) := hb.cell 0 (by simp)
  have k1 : w.cell? ⟨b, 1, none⟩ = some (.int .i64 P.D) := hb.cell 1 (by simp)
  have k2 : w.cell? ⟨b, 2, none⟩ = some (.slice A P.nodes.length c) := hb.cell 2 (by simp)
  have k3 : w.cell? ⟨b, 3, none⟩ = some (.slice A' P.edges.length c') := hb.cell 3 (by simp)
  go_enter Tryz.func81, Tryz.ntmps81
  go_wp2_with fail
  refine (nodeP_any _ P _ _ _ zs _ _ w FP.out hh F1.out hh1 hg hx).mono ?_
  rintro e w1 ⟨rfl, hb1⟩
  obtain ⟨z, HZ⟩ : ∃ z, Hid (decide (sortI zs ∈ P.nodes) = z) := ⟨_, Lib.hid rfl⟩
  rw [HZ.out]
  go_wp2_with fail
  go_ret
  exact ⟨ret_bool HZ.out.symm, hb1⟩
set_option maxHeartbeats 1000000 in
set_option maxRecDepth 100000 in
theorem oriC1_any (v1 : Value) (zs : List Int) (lo1 hi1 b br n cr : Nat) (Ar : Option Addr) (P : PrD) (A A' : Option Addr) (c c' lo hi : Nat) (w : World) (h1 : IntS w lo1 hi1 v1 zs) (hh1 : hi1 ≤ w.heap.size) (hP : Pro w lo hi (.agg #[.int .i64 P.L, .int .i64 P.D, .slice A P.nodes.length c, .slice A' P.edges.length c']) P) (hh : hi ≤ w.heap.size) (hb : BoxN w b #[.int .i64 P.L, .int .i64 P.D, .slice A P.nodes.length c, .slice A' P.edges.length c'] 34) (hr : BoxN w br #[.slice Ar n cr] 26) (hg : P.good = true) (hx : zs.length ≤ 1000) :
    Calls Tryz.prog 32 #[v1, .pointer (some ⟨br, 0, none⟩), .pointer (some ⟨b, 0, none⟩)] w fun e w' => e = .returned (.bool (if (n : Int) = P.D then nodeB P zs else true)) ∧ Below w.heap.size w w' := by
  have F1 := Lib.hid h1; clear h1
  have FP := Lib.hid hP; clear hP
  obtain ⟨A1, c1, rfl, hc1, hd1⟩ := F1.out.dims
  have q0 : w.cell? ⟨br, 0, none⟩ = some (.slice Ar n cr) := hr.cell 0 (by simp)
  have k0 : w.cell? ⟨b, 0, none⟩ = some (.int .i64 P.L) := hb.cell 0 (by simp)
  have k1 : w.cell? ⟨b, 1, none⟩ = some (.int .i64 P.D) := hb.cell 1 (by simp)
  have k2 : w.cell? ⟨b, 2, none⟩ = some (.slice A P.nodes.length c) := hb.cell 2 (by simp)
  have k3 : w.cell? ⟨b, 3, none⟩ = some (.slice A' P.edges.length c') := hb.cell 3 (by simp)
  by_cases hn : (n : Int) = P.D
  case neg =>
    rw [if_neg hn]
    have hnb : ((n : Int) != P.D) = true := by simpa using hn
    go_enter Tryz.func32, Tryz.ntmps32
    go_wp2_with fail
    go_ret
    exact ⟨rfl, Below.refl _ _⟩
  rw [if_pos hn]
  have hnb : ((n : Int) != P.D) = false := by simpa using hn
  have HNN := Lib.hid hn; clear hn
  go_enter Tryz.func32, Tryz.ntmps32
  go_wp2_with (go_at_call 33; refine (nodeP_any _ P _ _ _ zs _ _ w FP.out hh F1.out hh1 hg hx).mono ?_; rintro e w1 ⟨rfl, hb1⟩)
  go_ret
  exact ⟨rfl, hb1⟩
set_option maxHeartbeats 2000000 in
set_option maxRecDepth 100000 in
theorem nodeChoice_any (v1 : Value) (P : PrD) (lo1 hi1 : Nat) (v2 : Value) (lists : List (List Int)) (lo2 hi2 n : Nat) (w : World) (h1 : Pro w lo1 hi1 v1 P) (hh1 : hi1 ≤ w.heap.size) (h2 : IntSS w lo2 hi2 v2 lists) (hh2 : hi2 ≤ w.heap.size) (hn : lists.length = n) (hnb : n ≤ 1000) (hg : P.good = true) :
    Calls Tryz.prog 54 #[v1, v2] w fun e w' => ∃ r : Value, e = .returned (.tuple #[r, .bool (firstC (nodeB P) lists []).isSome]) ∧ Below w.heap.size w w' := by
  have HN := Lib.hid hn; clear hn
  have F1 := Lib.hid h1
  obtain ⟨A, c, A', c', rfl, hc, hd⟩ := h1.parts
  clear h1
  obtain ⟨A2, c2, rfl, hc2, hd2⟩ := h2.dims
  have F2 := Lib.hid h2; clear h2
  have eg1 := enters_of Tryz.func81 (by kernel_rfl) rfl
  go_enter Tryz.func54, Tryz.ntmps54
  go_upto_region 1 with (fail)
  refine nameC ?_
  intro WA HWA
  have bx : BoxN WA w.heap.size #[.int .i64 P.L, .int .i64 P.D, .slice A P.nodes.length c, .slice A' P.edges.length c'] 34 := by rw [HWA.out]; exact BoxN.new _ _ _
  have hbA : Below w.heap.size w WA := by rw [HWA.out]; exact (Below.refl _ _).alloc (Nat.le_refl _) _
  have hzA : WA.heap.size = w.heap.size + 1 := by rw [HWA.out]; simp
  clear HWA
  have HBX := Lib.hid bx; clear bx
  have HPA := Lib.hid (Pro.below F1.out hbA hh1)
  have HC := Lib.hid (firstChoice_any 81 #[.pointer (some ⟨w.heap.size, 0, none⟩)] eg1 (nodeB P) _ lists lo2 hi2 WA n (ISS.below F2.out hbA hh2) (by omega) HN.out (by omega) (fun g W zs hW h1 h2 hi hz => nodeC1_any _ zs _ _ w.heap.size P A A' c c' lo1 hi1 W hi (by omega) (Pro.below HPA.out hW (by omega)) (by have := hW.size; omega) (HBX.out.below hW (by omega)) hg (by omega)))
  obtain ⟨z, HZ⟩ : ∃ z, Hid ((firstC (nodeB P) lists []).isSome = z) := ⟨_, Lib.hid rfl⟩
  rw [HZ.out] at HC
  go_wp2_with (go_at_call 31; refine HC.out.mono ?_; rintro e W2 ⟨r, rfl, _, hb2⟩)
  go_ret2
  first
    | exact ⟨⟨r, ret_pb HZ.out.symm⟩, hbA.trans (hb2.mono (by omega))⟩
    | exact ⟨r, ret_pb HZ.out.symm, hbA.trans (hb2.mono (by omega))⟩

end Go.Proofs.YtkcbocoimbhhaaaGreat
