/-
  Contracts of ShiftCentres (program and reference).
-/
import Derived.Test.YtapfighdnfmdcaaPerm
import Derived.Test.YtapfighdnfmdcaaEdge2
namespace Go.Proofs.Ytapfighdnfmdcaa
open Go.ChangeShapes Go.WideShapes Go.ChangeAt Go.RowKit
set_option linter.unusedVariables false

def shiftStep (ds ss : List Int) (best u : Nat) : Nat := if 0 ≤ nth ds u ∧ (nth ss best - nth ds best < nth ss u - nth ds u ∨ (nth ss u - nth ds u = nth ss best - nth ds best ∧ u < best)) then u else best
def shiftOf (N : NetD) (ss : List Int) (v : Nat) : Nat := (List.range N.ends.length).foldl (shiftStep (dist N v) ss) v
def shiftAll (N : NetD) (ss : List Int) : List Int := (List.range N.ends.length).map fun v => (shiftOf N ss v : Int)
def shiftOk (N : NetD) (ss : List Int) : Bool := N.good && (decide (ss.length = N.ends.length) && ss.all fun x => inB x 0 40)
def shiftOut (N : NetD) (ss : List Int) : List Int := if shiftOk N ss = true then shiftAll N ss else []
theorem shiftAll_length (N : NetD) (ss : List Int) : (shiftAll N ss).length = N.ends.length := by simp [shiftAll]
theorem nth_shiftAll {N : NetD} {ss : List Int} {v : Nat} (hv : v < N.ends.length) : nth (shiftAll N ss) v = shiftOf N ss v := by simp [nth, shiftAll, hv]
theorem shiftOut_len (N : NetD) (ss : List Int) : (shiftOut N ss).length ≤ N.sz := by
  unfold shiftOut NetD.sz szSS; split
  · rw [shiftAll_length]; omega
  · exact Nat.zero_le _
theorem range_foldl_succ {α : Type} (f : α → Nat → α) (x : α) (m : Nat) : (List.range (m + 1)).foldl f x = f ((List.range m).foldl f x) m := by rw [List.range_succ, List.foldl_append]; rfl
theorem quiet_left2 {P : Program} {f : FuncId} {args : Array Value} {w : World} {nd n : Nat} {v : Value}
    (h : Calls P f args (w.drewN (nd + n)) fun e w' => e = .returned v ∧ w.drewN (nd + n) = w') : Calls P f args (w.drewN (nd + n)) fun e w'' => e = .returned v ∧ ∃ m, w'' = w.drewN (nd + m) :=
  h.mono fun _ _ ⟨he, hm⟩ => ⟨he, n, hm.symm⟩
def cmpI (a b : Int) : Int := if a < b then -1 else if b < a then 1 else 0
theorem cmp_any (a b : Int) (w : World) : Calls Try.prog 61 #[.int .i64 a, .int .i64 b] w fun e w' => e = .returned (.int .i64 (cmpI a b)) ∧ w = w' := by
  by_cases h1 : a < b
  · have h2 : ¬ b < a := by omega
    go_enter Try.func61, Try.ntmps61
    go_wp2
    go_ret
    exact ⟨ret_int (by unfold cmpI; rw [if_pos h1]), rfl⟩
  · by_cases h2 : b < a
    · go_enter Try.func61, Try.ntmps61
      go_wp2
      go_ret
      exact ⟨ret_int (by unfold cmpI; rw [if_neg (by omega), if_pos h2]), rfl⟩
    · go_enter Try.func61, Try.ntmps61
      go_wp2
      go_ret
      exact ⟨ret_int (by unfold cmpI; rw [if_neg (by omega), if_neg (by omega)]), rfl⟩

set_option maxHeartbeats 4000000 in
set_option maxRecDepth 100000 in
theorem ShiftCentres_impl (v1 : Value) (N : NetD) (lo1 hi1 : Nat) (v2 : Value) (ss : List Int) (lo2 hi2 : Nat) (w : World) (h1 : Net w lo1 hi1 v1 N) (hh1 : hi1 ≤ w.heap.size) (h2 : IntS w lo2 hi2 v2 ss) (hh2 : hi2 ≤ w.heap.size) (hz1 : N.sz ≤ 1048576) (hz2 : ss.length ≤ 1048576) (ok1 : N.Ok) (ok2 : ∀ z ∈ ss, I64 z) :
    Calls Try.prog 19 #[v1, v2] w fun e w' => ∃ r, e = .returned (.tuple #[r, .bool (shiftOk N ss)]) ∧ IntS w' w.heap.size w'.heap.size r (shiftOut N ss) ∧ Below w.heap.size w w' := by
  clear ok1 ok2
  have F1 := Lib.hid h1
  obtain ⟨A1, c1, A1', c1', A1'', c1'', rfl, hc1, hd1, _⟩ := h1.parts
  clear h1
  have F2 := Lib.hid h2
  obtain ⟨A2, c2, rfl, hc2, hd2⟩ := h2.dims
  clear h2
  obtain ⟨WA, HWA⟩ : ∃ W, Hid (W = (w.alloc (.cells #[.slice A1 N.ends.length c1, .slice A1' N.ids.length c1', .slice A1'' N.inputs.length c1''] 31))) := ⟨_, Lib.hid rfl⟩
  have hbA : Below w.heap.size w WA := by rw [HWA.out]; exact ((Below.refl _ _).alloc (Nat.le_refl _) _)
  have hsA : w.heap.size + 1 ≤ WA.heap.size := by rw [HWA.out]; simp; try omega
  have bx1 : BoxN WA (w.heap.size) #[.slice A1 N.ends.length c1, .slice A1' N.ids.length c1', .slice A1'' N.inputs.length c1''] 31 := by rw [HWA.out]; exact (BoxN.new' _ _ _ (by simp))
  have G1 := Lib.hid (Net.below F1.out hbA hh1); clear F1
  have G2 := Lib.hid (IntS.below F2.out hbA hh2); clear F2
  go_enter Try.func19, Try.ntmps19
  go_upto_region 1 with (fail)
  rw [← HWA.out]; clear HWA
  have kbx1_0 : WA.cell? ⟨w.heap.size, 0, none⟩ = some (.slice A1 N.ends.length c1) := bx1.cell 0 (by simp)
  have kbx1_1 : WA.cell? ⟨w.heap.size, 1, none⟩ = some (.slice A1' N.ids.length c1') := bx1.cell 1 (by simp)
  have kbx1_2 : WA.cell? ⟨w.heap.size, 2, none⟩ = some (.slice A1'' N.inputs.length c1'') := bx1.cell 2 (by simp)
  go_wp2_with fail
  clear kbx1_0 kbx1_1 kbx1_2
  refine (IsNetwork_any _ N lo1 hi1 _ G1.out (by omega) hz1).mono ?_
  rintro e W1 ⟨rfl, hb1⟩
  have hg1 := grown_below hb1; clear hb1
  have hs1 := hg1.size
  have HF1 := Lib.hid ((Turned.refl WA.heap.size WA.heap.size WA).still hg1)
  by_cases hg : N.good = true
  case neg =>
    have hg' : N.good = false := by simpa using hg
    rw [hg']
    have HG := Lib.hid hg'; clear hg hg'
    go_wp2_with fail
    go_ret2
    exact ⟨_, ret_vb (show false = shiftOk N ss by unfold shiftOk; rw [HG.out]; simp), by unfold shiftOut shiftOk; rw [HG.out]; simp only [Bool.false_and]; exact IntS.nil _ _ _, (HF1.out.below_of hbA (by omega) (by omega))⟩
  rw [hg]
  have HG := Lib.hid hg; clear hg
  obtain ⟨n1, n40⟩ := good_n HG.out
  have kbx1_0 : W1.cell? ⟨w.heap.size, 0, none⟩ = some (.slice A1 N.ends.length c1) := (HF1.out.boxN bx1 (by omega)).cell 0 (by simp)
  have kbx1_1 : W1.cell? ⟨w.heap.size, 1, none⟩ = some (.slice A1' N.ids.length c1') := (HF1.out.boxN bx1 (by omega)).cell 1 (by simp)
  have kbx1_2 : W1.cell? ⟨w.heap.size, 2, none⟩ = some (.slice A1'' N.inputs.length c1'') := (HF1.out.boxN bx1 (by omega)).cell 2 (by simp)
  by_cases hl : ss.length = N.ends.length
  case neg =>
    have hl' : ((ss.length : Int) != (N.ends.length : Int)) = true := by simp; omega
    have HL := Lib.hid (decide_eq_false hl); clear hl
    go_wp2_with fail
    go_ret2
    exact ⟨_, ret_vb (show false = shiftOk N ss by unfold shiftOk; rw [HL.out]; simp), by unfold shiftOut shiftOk; rw [HL.out]; simp only [Bool.false_and, Bool.and_false]; exact IntS.nil _ _ _, (HF1.out.below_of hbA (by omega) (by omega))⟩
  have hl' : ((ss.length : Int) != (N.ends.length : Int)) = false := by simp; omega
  have HL := Lib.hid (decide_eq_true hl)
  have hle : N.ends.length ≤ ss.length := by omega
  have hle2 : ss.length ≤ N.ends.length := by omega
  clear hl
  have HSH := Lib.hid (show shiftOk N ss = (ss.all fun x => inB x 0 40) by unfold shiftOk; rw [HG.out, HL.out]; rfl)
  go_wp2_with fail
  clear kbx1_0 kbx1_1 kbx1_2
  refine (allWithin_any _ ss 0 40 _ _ _ (IntS.turned G2.out HF1.out (by omega) (by omega)) (by omega)).mono ?_
  rintro e W2 ⟨rfl, hb2⟩
  have hg2 := grown_below hb2; clear hb2
  have hs2 := hg2.size
  have HF2 := Lib.hid (HF1.out.still hg2); clear HF1
  rw [← HSH.out]
  cases hok : shiftOk N ss with
  | false =>
    have HOK := Lib.hid hok; clear hok
    go_wp2_with fail
    go_ret2
    exact ⟨_, ret_vb HOK.out.symm, by unfold shiftOut; rw [HOK.out]; exact IntS.nil _ _ _, (HF2.out.below_of hbA (by omega) (by omega))⟩
  | true =>
    have HOK := Lib.hid hok; clear hok
    have HV := Lib.hid (fun j (hj : j < ss.length) => show 0 ≤ nth ss j ∧ nth ss j ≤ 40 by
      have := HSH.out; rw [HOK.out] at this
      exact inB_le (all_nth.1 this.symm j hj))
    have kbx1_0 : W2.cell? ⟨w.heap.size, 0, none⟩ = some (.slice A1 N.ends.length c1) := (HF2.out.boxN bx1 (by omega)).cell 0 (by simp)
    have kbx1_1 : W2.cell? ⟨w.heap.size, 1, none⟩ = some (.slice A1' N.ids.length c1') := (HF2.out.boxN bx1 (by omega)).cell 1 (by simp)
    have kbx1_2 : W2.cell? ⟨w.heap.size, 2, none⟩ = some (.slice A1'' N.inputs.length c1'') := (HF2.out.boxN bx1 (by omega)).cell 2 (by simp)
    go_wp2_with fail
    clear kbx1_0 kbx1_1 kbx1_2
    refine (allDistances_any _ N lo1 hi1 _ (Net.turned G1.out HF2.out (by omega) (by omega)) (by omega) (by omega) (good_nodes HG.out) (good_degs HG.out)).mono ?_
    rintro e W3 ⟨rd, rfl, hrd, hb3⟩
    have hg3 := grown_below hb3; clear hb3
    have hs3 := hg3.size
    have HF3 := Lib.hid (HF2.out.still hg3); clear HF2
    have D3 := Lib.hid hrd; clear hrd
    have N_3 := Lib.hid (Net.turned G1.out HF3.out (by omega) (by omega)); clear G1
    have ss_3 := Lib.hid (IntS.turned G2.out HF3.out (by omega) (by omega)); clear G2
    have bx1_3 := HF3.out.boxN bx1 (by omega); clear bx1
    have hbA3 := (HF3.out.below_of hbA (by omega) (by omega)); clear hbA HF3
    obtain ⟨Ad, cd, rfl, hcd, hdd⟩ := D3.out.dims
    rw [allDist_length] at hcd ⊢
    go_wp2_with fail
    go_loopw [32, 6] (fun i ov wr => ∃ (k : Nat) (zs : List Int), k ≤ N.ends.length ∧ i = .int .i64 k ∧ Hid (OwnI wr W3.heap.size 3 ov zs) ∧ Hid (zs = (shiftAll N ss).take k) ∧ zs.length ≤ k ∧ Hid (Turned W3.heap.size W3.heap.size W3 wr)) (fun i ov _ => N.ends.length - (intOf i).toNat)
    case atStart => exact ⟨0, [], Nat.zero_le _, rfl, Lib.hid (OwnI.nil _ _ _), Lib.hid (by simp), Nat.zero_le _, Lib.hid (Turned.refl W3.heap.size W3.heap.size W3)⟩
    case round =>
      obtain ⟨k, zs, hk, rfl, HO, HD, hl, HF4⟩ := hrel
      have hs4 := HF4.out.size
      by_cases hlt : k < N.ends.length
      case neg =>
        obtain rfl : k = N.ends.length := by omega
        go_wp2_with fail
        go_ret2
        refine ⟨_, ret_vb HOK.out.symm, ?_, (HF4.out.below_of hbA3 (by omega) (by omega))⟩
        have e : shiftOut N ss = zs := by unfold shiftOut; rw [HOK.out, if_pos rfl, HD.out, ← shiftAll_length N ss, List.take_length]
        rw [e]
        exact HO.out.ints.mono (by omega) (Nat.le_refl _)
      have hlt2 : k < (allDist N).length := by rw [allDist_length]; exact hlt
      obtain ⟨bs, os, us, rfl, _, hbs, zd, hus⟩ := SS.opened (ISS.turned D3.out HF4.out (by omega) (by omega)) hlt2
      clear hlt2
      rw [nthL_allDist N hlt] at hus
      obtain ⟨As, cs, rfl, hcs, hds⟩ := hus.dims
      have US := Lib.hid hus; clear hus
      have hdl := dist_len (good_nodes HG.out) hlt
      rw [hdl] at zd hcs
      have HDL := Lib.hid hdl; clear hdl
      obtain ⟨bR, oR, rfl, _, hbR, _, _⟩ := IntS.opened US.out (j := 0) (by rw [HDL.out]; omega)
      obtain ⟨bS, oS, rfl, _, hbS, _, _⟩ := IntS.opened (IntS.turned ss_3.out HF4.out (by omega) (by omega)) (j := 0) (by omega)
      obtain ⟨wo, rfl⟩ : ∃ wo : World, wo = wr := ⟨_, rfl⟩
      go_wp2_with fail
      go_loopw [40, 9] (fun i bv wr => ∃ (m b nd : Nat), m ≤ N.ends.length ∧ i = .int .i64 m ∧ bv = .int .i64 b ∧ b < N.ends.length ∧ Hid (b = (List.range m).foldl (shiftStep (dist N k) ss) k) ∧ wr = wo.drewN nd) (fun i bv _ => N.ends.length - (intOf i).toNat)
      case atStart => exact ⟨0, k, 0, Nat.zero_le _, rfl, rfl, hlt, Lib.hid rfl, rfl⟩
      case round =>
        obtain ⟨m, b, nd, hm, rfl, rfl, hb, HB, rfl⟩ := hrel
        by_cases hml : m < N.ends.length
        case neg =>
          obtain rfl : m = N.ends.length := by omega
          have hlv := HO.out.lt
          go_wp2_with (at_builtin; refine append_int (s := .tmp 76) Try.underlying23 Try.info3 (by decide) (wo.drewN nd) rfl _ rfl (OwnI.drewN HO.out nd) b _ rfl (by simp [Act.eval, go_sem]) (by omega) (by show _ ≤ wo.heap.size; omega) ?_; intro v' w' ho' hg' hat')
          go_roundw
          case rel =>
            refine ⟨k + 1, _, by omega, by go_num, Lib.hid ho', Lib.hid ?_, by simp; omega, Lib.hid ((HF4.out.still (grown_drewN _ nd)).grown hg' fun g hg => .inr (hlv g hg).1)⟩
            rw [List.take_succ_eq_append_getElem (by rw [shiftAll_length]; exact hlt), ← nth_eq, nth_shiftAll hlt, ← HD.out, HB.out]; rfl
          case measure => simp [intOf]; omega
        obtain ⟨x1, _⟩ := US.out.at_ (j := m) (by rw [HDL.out]; exact hml)
        obtain ⟨x2, _⟩ := US.out.at_ (j := b) (by rw [HDL.out]; exact hb)
        obtain ⟨y1, _⟩ := ((IntS.turned ss_3.out HF4.out (by omega) (by omega))).at_ (j := m) (by omega)
        obtain ⟨y2, _⟩ := ((IntS.turned ss_3.out HF4.out (by omega) (by omega))).at_ (j := b) (by omega)
        obtain ⟨v1, v2⟩ := HV.out m (by omega)
        obtain ⟨v3, v4⟩ := HV.out b (by omega)
        obtain ⟨v5, v6⟩ := dist_low (good_nodes HG.out) hlt hml
        obtain ⟨v7, v8⟩ := dist_low (good_nodes HG.out) hlt hb
        have HSS := Lib.hid (range_foldl_succ (shiftStep (dist N k) ss) k m)
        rw [← HB.out] at HSS
        unfold shiftStep at HSS
        obtain ⟨d1, HD1⟩ : ∃ y, Hid (nth (dist N k) m = y) := ⟨_, Lib.hid rfl⟩
        obtain ⟨d2, HD2⟩ : ∃ y, Hid (nth (dist N k) b = y) := ⟨_, Lib.hid rfl⟩
        obtain ⟨s1, HS1⟩ : ∃ y, Hid (nth ss m = y) := ⟨_, Lib.hid rfl⟩
        obtain ⟨s2, HS2⟩ : ∃ y, Hid (nth ss b = y) := ⟨_, Lib.hid rfl⟩
        have HST := Lib.hid (show (List.range (m + 1)).foldl (shiftStep (dist N k) ss) k = if 0 ≤ d1 ∧ (s2 - d2 < s1 - d1 ∨ (s1 - d1 = s2 - d2 ∧ m < b)) then m else b by rw [← HD1.out, ← HD2.out, ← HS1.out, ← HS2.out]; exact HSS.out)
        clear HSS
        rw [HD1.out] at x1 v5 v6
        rw [HD2.out] at x2 v7 v8
        rw [HS1.out] at y1 v1 v2
        rw [HS2.out] at y2 v3 v4
        have i1 : (m : Int) < N.ends.length := by omega
        have i2 : (b : Int) < N.ends.length := by omega
        have i3 : (m : Int) < ss.length := by omega
        have i4 : (b : Int) < ss.length := by omega
        have w1 : IntKind.i64.wrap (s1 - d1) = s1 - d1 := IntWalk.i64_in _ (by omega)
        have w2 : IntKind.i64.wrap (s2 - d2) = s2 - d2 := IntWalk.i64_in _ (by omega)
        by_cases q1 : 0 ≤ d1
        case neg =>
          have g1 : decide (0 ≤ d1) = false := decide_eq_false q1
          have HQ := Lib.hid (show d1 < 0 by omega)
          go_wp2_with fail
          go_roundw
          case rel => exact ⟨m + 1, b, nd, by omega, by go_num, rfl, by omega, Lib.hid (by rw [HST.out, if_neg (by have := HQ.out; omega)]), rfl⟩
          case measure => simp [intOf]; omega
        by_cases q2 : s2 - d2 < s1 - d1
        case pos =>
          have hc : cmpI (s1 - d1) (s2 - d2) = 1 := by unfold cmpI; rw [if_neg (by omega), if_pos q2]
          have HQ := Lib.hid (And.intro q1 q2)
          go_wp2_with fail
          go_quiet ((go_at_call 61; exact quiet_left2 (cmp_any _ _ _)))
          go_wp2_with fail
          go_roundw
          case rel => exact ⟨m + 1, m, nd + nq, by omega, by go_num, rfl, by omega, Lib.hid (by rw [HST.out, if_pos (by have := HQ.out; omega)]), rfl⟩
          case measure => simp [intOf]; omega
        by_cases q3 : s1 - d1 < s2 - d2
        case pos =>
          have hc : cmpI (s1 - d1) (s2 - d2) = -1 := by unfold cmpI; rw [if_pos q3]
          have HQ := Lib.hid (And.intro q1 q3)
          go_wp2_with fail
          go_quiet ((go_at_call 61; exact quiet_left2 (cmp_any _ _ _)))
          go_wp2_with fail
          go_roundw
          case rel => exact ⟨m + 1, b, nd + nq, by omega, by go_num, rfl, by omega, Lib.hid (by rw [HST.out, if_neg (by have := HQ.out; omega)]), rfl⟩
          case measure => simp [intOf]; omega
        have hc : cmpI (s1 - d1) (s2 - d2) = 0 := by unfold cmpI; rw [if_neg q3, if_neg q2]
        by_cases q4 : m < b
        case pos =>
          have HQ := Lib.hid (show 0 ≤ d1 ∧ s1 - d1 = s2 - d2 ∧ m < b by omega)
          go_wp2_with fail
          go_quiet ((go_at_call 61; exact quiet_left2 (cmp_any _ _ _)))
          go_wp2_with fail
          go_roundw
          case rel => exact ⟨m + 1, m, nd + nq, by omega, by go_num, rfl, by omega, Lib.hid (by rw [HST.out, if_pos (by have := HQ.out; omega)]), rfl⟩
          case measure => simp [intOf]; omega
        have HQ := Lib.hid (show 0 ≤ d1 ∧ s1 - d1 = s2 - d2 ∧ ¬ m < b by omega)
        go_wp2_with fail
        go_quiet ((go_at_call 61; exact quiet_left2 (cmp_any _ _ _)))
        go_wp2_with fail
        go_roundw
        case rel => exact ⟨m + 1, b, nd + nq, by omega, by go_num, rfl, by omega, Lib.hid (by rw [HST.out, if_neg (by have := HQ.out; omega)]), rfl⟩
        case measure => simp [intOf]; omega

set_option maxHeartbeats 4000000 in
set_option maxRecDepth 100000 in
theorem ShiftCentres_spec (v1 : Value) (N : NetD) (lo1 hi1 : Nat) (v2 : Value) (ss : List Int) (lo2 hi2 : Nat) (w : World) (h1 : Net w lo1 hi1 v1 N) (hh1 : hi1 ≤ w.heap.size) (h2 : IntS w lo2 hi2 v2 ss) (hh2 : hi2 ≤ w.heap.size) (hz1 : N.sz ≤ 1048576) (hz2 : ss.length ≤ 1048576) (ok1 : N.Ok) (ok2 : ∀ z ∈ ss, I64 z) :
    Calls Try.prog 16 #[v1, v2] w fun e w' => ∃ r, e = .returned (.tuple #[r, .bool (shiftOk N ss)]) ∧ IntS w' w.heap.size w'.heap.size r (shiftOut N ss) ∧ Below w.heap.size w w' := by
  clear ok1 ok2
  have F1 := Lib.hid h1
  obtain ⟨A1, c1, A1', c1', A1'', c1'', rfl, hc1, hd1, _⟩ := h1.parts
  clear h1
  have F2 := Lib.hid h2
  obtain ⟨A2, c2, rfl, hc2, hd2⟩ := h2.dims
  clear h2
  obtain ⟨WA, HWA⟩ : ∃ W, Hid (W = (w.alloc (.cells #[.slice A1 N.ends.length c1, .slice A1' N.ids.length c1', .slice A1'' N.inputs.length c1''] 31))) := ⟨_, Lib.hid rfl⟩
  have hbA : Below w.heap.size w WA := by rw [HWA.out]; exact ((Below.refl _ _).alloc (Nat.le_refl _) _)
  have hsA : w.heap.size + 1 ≤ WA.heap.size := by rw [HWA.out]; simp; try omega
  have bx1 : BoxN WA (w.heap.size) #[.slice A1 N.ends.length c1, .slice A1' N.ids.length c1', .slice A1'' N.inputs.length c1''] 31 := by rw [HWA.out]; exact (BoxN.new' _ _ _ (by simp))
  have G1 := Lib.hid (Net.below F1.out hbA hh1); clear F1
  have G2 := Lib.hid (IntS.below F2.out hbA hh2); clear F2
  go_enter Try.func16, Try.ntmps16
  go_upto_region 1 with (fail)
  rw [← HWA.out]; clear HWA
  have kbx1_0 : WA.cell? ⟨w.heap.size, 0, none⟩ = some (.slice A1 N.ends.length c1) := bx1.cell 0 (by simp)
  have kbx1_1 : WA.cell? ⟨w.heap.size, 1, none⟩ = some (.slice A1' N.ids.length c1') := bx1.cell 1 (by simp)
  have kbx1_2 : WA.cell? ⟨w.heap.size, 2, none⟩ = some (.slice A1'' N.inputs.length c1'') := bx1.cell 2 (by simp)
  go_wp2_with fail
  clear kbx1_0 kbx1_1 kbx1_2
  refine (neGood_any _ N lo1 hi1 _ G1.out (by omega) hz1).mono ?_
  rintro e W1 ⟨rfl, hb1⟩
  have hg1 := grown_below hb1; clear hb1
  have hs1 := hg1.size
  have HF1 := Lib.hid ((Turned.refl WA.heap.size WA.heap.size WA).still hg1)
  by_cases hg : N.good = true
  case neg =>
    have hg' : N.good = false := by simpa using hg
    rw [hg']
    have HG := Lib.hid hg'; clear hg hg'
    go_wp2_with fail
    go_ret2
    exact ⟨_, ret_vb (show false = shiftOk N ss by unfold shiftOk; rw [HG.out]; simp), by unfold shiftOut shiftOk; rw [HG.out]; simp only [Bool.false_and]; exact IntS.nil _ _ _, (HF1.out.below_of hbA (by omega) (by omega))⟩
  rw [hg]
  have HG := Lib.hid hg; clear hg
  obtain ⟨n1, n40⟩ := good_n HG.out
  have kbx1_0 : W1.cell? ⟨w.heap.size, 0, none⟩ = some (.slice A1 N.ends.length c1) := (HF1.out.boxN bx1 (by omega)).cell 0 (by simp)
  have kbx1_1 : W1.cell? ⟨w.heap.size, 1, none⟩ = some (.slice A1' N.ids.length c1') := (HF1.out.boxN bx1 (by omega)).cell 1 (by simp)
  have kbx1_2 : W1.cell? ⟨w.heap.size, 2, none⟩ = some (.slice A1'' N.inputs.length c1'') := (HF1.out.boxN bx1 (by omega)).cell 2 (by simp)
  by_cases hl : ss.length = N.ends.length
  case neg =>
    have hl' : ((ss.length : Int) != (N.ends.length : Int)) = true := by simp; omega
    have HL := Lib.hid (decide_eq_false hl); clear hl
    go_wp2_with fail
    go_ret2
    exact ⟨_, ret_vb (show false = shiftOk N ss by unfold shiftOk; rw [HL.out]; simp), by unfold shiftOut shiftOk; rw [HL.out]; simp only [Bool.false_and, Bool.and_false]; exact IntS.nil _ _ _, (HF1.out.below_of hbA (by omega) (by omega))⟩
  have hl' : ((ss.length : Int) != (N.ends.length : Int)) = false := by simp; omega
  have HL := Lib.hid (decide_eq_true hl)
  have hle : N.ends.length ≤ ss.length := by omega
  have hle2 : ss.length ≤ N.ends.length := by omega
  clear hl
  have HSH := Lib.hid (show shiftOk N ss = (ss.all fun x => inB x 0 40) by unfold shiftOk; rw [HG.out, HL.out]; rfl)
  cases hok : shiftOk N ss with
  | false =>
    have HOK := Lib.hid hok; clear hok
    go_wp2_with (go_at_call 55; refine (l1All_any _ ss _ _ _ _ _ (IntS.turned G2.out HF1.out (by omega) (by omega))).mono ?_; rintro e w' ⟨rfl, rfl⟩; rw [← HSH.out, HOK.out])
    go_ret2
    exact ⟨_, ret_vb HOK.out.symm, by unfold shiftOut; rw [HOK.out]; exact IntS.nil _ _ _, (HF1.out.below_of hbA (by omega) (by omega))⟩
  | true =>
    have HOK := Lib.hid hok; clear hok
    have HV := Lib.hid (fun j (hj : j < ss.length) => show 0 ≤ nth ss j ∧ nth ss j ≤ 40 by
      have := HSH.out; rw [HOK.out] at this
      exact inB_le (all_nth.1 this.symm j hj))
    go_wp2_with (go_at_call 55; refine (l1All_any _ ss _ _ _ _ _ (IntS.turned G2.out HF1.out (by omega) (by omega))).mono ?_; rintro e w' ⟨rfl, rfl⟩; rw [← HSH.out, HOK.out])
    clear kbx1_0 kbx1_1 kbx1_2
    have N_1 := Lib.hid (Net.turned G1.out HF1.out (by omega) (by omega)); clear G1
    have ss_1 := Lib.hid (IntS.turned G2.out HF1.out (by omega) (by omega)); clear G2
    have bx1_1 := HF1.out.boxN bx1 (by omega); clear bx1
    have hbA1 := (HF1.out.below_of hbA (by omega) (by omega)); clear hbA HF1
    go_loopw [31, 6] (fun i ov wr => ∃ (k : Nat) (zs : List Int), k ≤ N.ends.length ∧ i = .int .i64 k ∧ Hid (OwnI wr W1.heap.size 3 ov zs) ∧ Hid (zs = (shiftAll N ss).take k) ∧ zs.length ≤ k ∧ Hid (Turned W1.heap.size W1.heap.size W1 wr)) (fun i ov _ => N.ends.length - (intOf i).toNat)
    case atStart => exact ⟨0, [], Nat.zero_le _, rfl, Lib.hid (OwnI.nil _ _ _), Lib.hid (by simp), Nat.zero_le _, Lib.hid (Turned.refl W1.heap.size W1.heap.size W1)⟩
    case round =>
      obtain ⟨k, zs, hk, rfl, HO, HD, hl, HF2⟩ := hrel
      have hs2 := HF2.out.size
      by_cases hlt : k < N.ends.length
      case neg =>
        obtain rfl : k = N.ends.length := by omega
        go_wp2_with fail
        go_ret2
        refine ⟨_, ret_vb HOK.out.symm, ?_, (HF2.out.below_of hbA1 (by omega) (by omega))⟩
        have e : shiftOut N ss = zs := by unfold shiftOut; rw [HOK.out, if_pos rfl, HD.out, ← shiftAll_length N ss, List.take_length]
        rw [e]
        exact HO.out.ints.mono (by omega) (Nat.le_refl _)
      have kbx1_0 : wr.cell? ⟨w.heap.size, 0, none⟩ = some (.slice A1 N.ends.length c1) := (HF2.out.boxN bx1_1 (by omega)).cell 0 (by simp)
      have kbx1_1 : wr.cell? ⟨w.heap.size, 1, none⟩ = some (.slice A1' N.ids.length c1') := (HF2.out.boxN bx1_1 (by omega)).cell 1 (by simp)
      have kbx1_2 : wr.cell? ⟨w.heap.size, 2, none⟩ = some (.slice A1'' N.inputs.length c1'') := (HF2.out.boxN bx1_1 (by omega)).cell 2 (by simp)
      go_wp2_with fail
      clear kbx1_0 kbx1_1 kbx1_2
      refine (meFrom_any _ N k lo1 hi1 _ (Net.turned N_1.out HF2.out (by omega) (by omega)) (by omega) hlt (by omega) (good_nodes HG.out) (good_degs HG.out)).mono ?_
      rintro e W3 ⟨rd, rfl, hrd, hb3⟩
      have hg3 := grown_below hb3; clear hb3
      have hs3 := hg3.size
      have HF3 := Lib.hid (HF2.out.still hg3); clear HF2
      have O3 := Lib.hid (OwnI.still HO.out hg3); clear HO
      have R3 := Lib.hid hrd; clear hrd
      obtain ⟨As, cs, rfl, hcs, hds⟩ := R3.out.dims
      have US := R3
      have hdl := dist_len (good_nodes HG.out) hlt
      rw [hdl] at hcs ⊢
      have HDL := Lib.hid hdl; clear hdl
      obtain ⟨bR, oR, rfl, _, hbR, _, _⟩ := IntS.opened US.out (j := 0) (by rw [HDL.out]; omega)
      obtain ⟨bS, oS, rfl, _, hbS, _, _⟩ := IntS.opened (IntS.turned ss_1.out HF3.out (by omega) (by omega)) (j := 0) (by omega)
      obtain ⟨wo, rfl⟩ : ∃ wo : World, wo = W3 := ⟨_, rfl⟩
      go_wp2_with fail
      go_loopw [40, 9] (fun i bv wr => ∃ (m b nd : Nat), m ≤ N.ends.length ∧ i = .int .i64 m ∧ bv = .int .i64 b ∧ b < N.ends.length ∧ Hid (b = (List.range m).foldl (shiftStep (dist N k) ss) k) ∧ wr = wo.drewN nd) (fun i bv _ => N.ends.length - (intOf i).toNat)
      case atStart => exact ⟨0, k, 0, Nat.zero_le _, rfl, rfl, hlt, Lib.hid rfl, rfl⟩
      case round =>
        obtain ⟨m, b, nd, hm, rfl, rfl, hb, HB, rfl⟩ := hrel
        by_cases hml : m < N.ends.length
        case neg =>
          obtain rfl : m = N.ends.length := by omega
          have hlv := O3.out.lt
          go_wp2_with (at_builtin; refine append_int (s := .tmp 90) Try.underlying23 Try.info3 (by decide) (wo.drewN nd) rfl _ rfl (OwnI.drewN O3.out nd) b _ rfl (by simp [Act.eval, go_sem]) (by omega) (by show _ ≤ wo.heap.size; omega) ?_; intro v' w' ho' hg' hat')
          go_roundw
          case rel =>
            refine ⟨k + 1, _, by omega, by go_num, Lib.hid ho', Lib.hid ?_, by simp; omega, Lib.hid ((HF3.out.still (grown_drewN _ nd)).grown hg' fun g hg => .inr (hlv g hg).1)⟩
            rw [List.take_succ_eq_append_getElem (by rw [shiftAll_length]; exact hlt), ← nth_eq, nth_shiftAll hlt, ← HD.out, HB.out]; rfl
          case measure => simp [intOf]; omega
        obtain ⟨x1, _⟩ := US.out.at_ (j := m) (by rw [HDL.out]; exact hml)
        obtain ⟨x2, _⟩ := US.out.at_ (j := b) (by rw [HDL.out]; exact hb)
        obtain ⟨y1, _⟩ := ((IntS.turned ss_1.out HF3.out (by omega) (by omega))).at_ (j := m) (by omega)
        obtain ⟨y2, _⟩ := ((IntS.turned ss_1.out HF3.out (by omega) (by omega))).at_ (j := b) (by omega)
        obtain ⟨v1, v2⟩ := HV.out m (by omega)
        obtain ⟨v3, v4⟩ := HV.out b (by omega)
        obtain ⟨v5, v6⟩ := dist_low (good_nodes HG.out) hlt hml
        obtain ⟨v7, v8⟩ := dist_low (good_nodes HG.out) hlt hb
        have HSS := Lib.hid (range_foldl_succ (shiftStep (dist N k) ss) k m)
        rw [← HB.out] at HSS
        unfold shiftStep at HSS
        obtain ⟨d1, HD1⟩ : ∃ y, Hid (nth (dist N k) m = y) := ⟨_, Lib.hid rfl⟩
        obtain ⟨d2, HD2⟩ : ∃ y, Hid (nth (dist N k) b = y) := ⟨_, Lib.hid rfl⟩
        obtain ⟨s1, HS1⟩ : ∃ y, Hid (nth ss m = y) := ⟨_, Lib.hid rfl⟩
        obtain ⟨s2, HS2⟩ : ∃ y, Hid (nth ss b = y) := ⟨_, Lib.hid rfl⟩
        have HST := Lib.hid (show (List.range (m + 1)).foldl (shiftStep (dist N k) ss) k = if 0 ≤ d1 ∧ (s2 - d2 < s1 - d1 ∨ (s1 - d1 = s2 - d2 ∧ m < b)) then m else b by rw [← HD1.out, ← HD2.out, ← HS1.out, ← HS2.out]; exact HSS.out)
        clear HSS
        rw [HD1.out] at x1 v5 v6
        rw [HD2.out] at x2 v7 v8
        rw [HS1.out] at y1 v1 v2
        rw [HS2.out] at y2 v3 v4
        have i1 : (m : Int) < N.ends.length := by omega
        have i2 : (b : Int) < N.ends.length := by omega
        have i3 : (m : Int) < ss.length := by omega
        have i4 : (b : Int) < ss.length := by omega
        have w1 : IntKind.i64.wrap (s1 - d1) = s1 - d1 := IntWalk.i64_in _ (by omega)
        have w2 : IntKind.i64.wrap (s2 - d2) = s2 - d2 := IntWalk.i64_in _ (by omega)
        by_cases q1 : 0 ≤ d1
        case neg =>
          have g1 : decide (0 ≤ d1) = false := decide_eq_false q1
          have HQ := Lib.hid (show d1 < 0 by omega)
          go_wp2_with fail
          go_quiet (fail)
          go_wp2_with fail
          go_roundw
          case rel => exact ⟨m + 1, b, nd + nq, by omega, by go_num, rfl, by omega, Lib.hid (by rw [HST.out, if_neg (by have := HQ.out; omega)]), rfl⟩
          case measure => simp [intOf]; omega
        have g1 : decide (0 ≤ d1) = true := decide_eq_true q1
        by_cases q2 : s2 - d2 < s1 - d1
        case pos =>
          have g2 : decide (s2 - d2 < s1 - d1) = true := decide_eq_true q2
          have HQ := Lib.hid (And.intro q1 q2)
          go_wp2_with fail
          go_quiet (fail)
          go_wp2_with fail
          go_roundw
          case rel => exact ⟨m + 1, m, nd + nq, by omega, by go_num, rfl, by omega, Lib.hid (by rw [HST.out, if_pos (by have := HQ.out; omega)]), rfl⟩
          case measure => simp [intOf]; omega
        have g2 : decide (s2 - d2 < s1 - d1) = false := decide_eq_false q2
        by_cases q3 : s1 - d1 = s2 - d2
        case neg =>
          have g3 : ((s1 - d1) == (s2 - d2)) = false := by simpa using q3
          have HQ := Lib.hid (show ¬ s2 - d2 < s1 - d1 ∧ ¬ s1 - d1 = s2 - d2 from ⟨q2, q3⟩)
          clear q3
          go_wp2_with fail
          go_quiet (fail)
          go_wp2_with fail
          go_roundw
          case rel => exact ⟨m + 1, b, nd + nq, by omega, by go_num, rfl, by omega, Lib.hid (by rw [HST.out, if_neg (by have := HQ.out; omega)]), rfl⟩
          case measure => simp [intOf]; omega
        have g3 : ((s1 - d1) == (s2 - d2)) = true := by simpa using q3
        have Q3 := Lib.hid q3; clear q3
        by_cases q4 : m < b
        case pos =>
          have g4 : decide (m < b) = true := decide_eq_true q4
          have HQ := Lib.hid (And.intro q1 (And.intro Q3.out q4))
          go_wp2_with fail
          go_quiet (fail)
          go_wp2_with fail
          go_roundw
          case rel => exact ⟨m + 1, m, nd + nq, by omega, by go_num, rfl, by omega, Lib.hid (by rw [HST.out, if_pos (by have := HQ.out; omega)]), rfl⟩
          case measure => simp [intOf]; omega
        have g4 : decide (m < b) = false := decide_eq_false q4
        have HQ := Lib.hid (And.intro q2 q4)
        go_wp2_with fail
        go_quiet (fail)
        go_wp2_with fail
        go_roundw
        case rel => exact ⟨m + 1, b, nd + nq, by omega, by go_num, rfl, by omega, Lib.hid (by rw [HST.out, if_neg (by have := HQ.out; omega)]), rfl⟩
        case measure => simp [intOf]; omega

end Go.Proofs.Ytapfighdnfmdcaa
