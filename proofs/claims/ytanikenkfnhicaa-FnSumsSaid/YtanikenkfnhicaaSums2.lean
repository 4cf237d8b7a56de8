/-
  Contracts: greatest common divisors, lengths; plain words for the sums' answers.
-/
import Derived.Test.YtanikenkfnhicaaSums
import Derived.Test.YtanikenkfnhicaaBase
import Derived.Test.YtanikenkfnhicaaCurs2
namespace Go.Proofs.Ytanikenkfnhicaa
open Go.ChangeShapes Go.WideShapes Go.ChangeAt Go.RowKit
set_option linter.unusedVariables false

theorem natL_toNat {l : List Nat} : (natL l).map Int.toNat = l := by unfold natL; rw [List.map_map]; conv => rhs; rw [← List.map_id l]
                                                                     exact List.map_congr_left fun x _ => by simp
/-- are the numbers lengths? -/
def lensB (z : List Int) : Bool := decide (0 < z.length) && rising z 1 40
theorem lensB_of {z : List Int} (h : lensB z = true) : ∃ l, z = natL l ∧ Lens l := by
  unfold lensB at h
  rw [Bool.and_eq_true, decide_eq_true_iff] at h
  obtain ⟨h1, h2⟩ := h
  have hr : ∀ x ∈ z, 1 ≤ x ∧ x ≤ 40 := fun x hx => by
    obtain ⟨j, hj, rfl⟩ := List.getElem_of_mem hx
    unfold rising at h2
    rw [List.all_eq_true] at h2
    have := h2 j (List.mem_range.2 hj)
    unfold risingAt at this
    rw [Bool.and_eq_true] at this
    have h3 := this.1
    rw [nth_eq hj] at h3
    unfold inB at h3
    simp only [Bool.and_eq_true, decide_eq_true_eq] at h3
    omega
  refine ⟨z.map Int.toNat, ?_, ?_, fun x hx => ?_⟩
  · unfold natL; rw [List.map_map]; symm
    conv => rhs; rw [← List.map_id z]
    exact List.map_congr_left fun x hx => by have := hr x hx; simp; omega
  · intro e; simp at e; rw [e] at h1; simp at h1
  · obtain ⟨y, hy, rfl⟩ := List.mem_map.1 hx
    have := hr y hy; omega
def gcdZ (z : List Int) : Int := if lensB z then ((gcdF 0 (z.map Int.toNat) : Nat) : Int) else 0
theorem gcdZ_nat {l : List Nat} (h : lensB (natL l) = true) : gcdZ (natL l) = (gcdF 0 l : Nat) := by unfold gcdZ; rw [if_pos h, natL_toNat]
theorem gcdZ_no {z : List Int} (h : lensB z = false) : gcdZ z = 0 := by unfold gcdZ; rw [h]; rfl
theorem gcdF_snoc (l : List Nat) (x : Nat) : gcdF 0 (l ++ [x]) = Nat.gcd (gcdF 0 l) x := by unfold gcdF; rw [List.foldl_append]; rfl
theorem gcdF_take {l : List Nat} {k : Nat} (h : k < l.length) : gcdF 0 (l.take (k + 1)) = Nat.gcd (gcdF 0 (l.take k)) (l.getD k 0) := by
  rw [List.take_add_one, List.getD_eq_getElem?_getD, List.getElem?_eq_getElem h]; exact gcdF_snoc _ _
theorem gcd_turn (d n : Nat) : Nat.gcd n (d % n) = Nat.gcd d n := by rw [Nat.gcd_comm n, ← Nat.gcd_rec, Nat.gcd_comm]

set_option maxHeartbeats 2000000 in
set_option maxRecDepth 100000 in
theorem nuGcd_any (a : Nat) (b : Nat) (w : World)  (ha : a ≤ 1000000) (hb : b ≤ 1000000) :
    Calls Try.prog 32 #[.int .i64 (a : Nat), .int .i64 (b : Nat)] w fun e w' => e = .returned (.int .i64 (Nat.gcd a b : Nat)) ∧ Below w.heap.size w w' := by
  go_enter Try.func32, Try.ntmps32
  go_wp2_with fail
  go_loopw [0, 1] (fun dv nv wr => ∃ (d n : Nat), dv = .int .i64 d ∧ nv = .int .i64 n ∧ d ≤ 1000000 ∧ n ≤ 1000000 ∧ Hid (Nat.gcd d n = Nat.gcd (a) (b)) ∧ Hid (Below w.heap.size w wr)) (fun dv nv _ => (intOf nv).toNat)
  case atStart => exact ⟨a, b, rfl, rfl, by omega, by omega, Lib.hid rfl, Lib.hid (Below.refl _ _)⟩
  case round =>
    obtain ⟨d, n, rfl, rfl, hd, hn, HG, HB⟩ := hrel
    by_cases hn0 : n = 0
    case neg =>
      have hne : ((n : Int) != 0) = true := by simp; omega
      have hnz : ¬ (n : Int) = 0 := by omega
      have hme : ((n : Int) == 0) = false := by simp; omega
      have htm := tmodN d n
      have hlt : d % n < n := Nat.mod_lt _ (by omega)
      obtain ⟨r, HR⟩ : ∃ r, Hid (d % n = r) := ⟨_, Lib.hid rfl⟩
      rw [HR.out] at htm hlt
      go_wp2_with fail
      go_quiet (fail)
      go_wp2_with fail
      go_roundw
      case rel => exact ⟨n, r, rfl, rfl, hn, by omega, Lib.hid (by rw [← HG.out, ← HR.out]; exact gcd_turn d n), Lib.hid (below_drewN HB.out _)⟩
      case measure => simp [intOf]; omega
    subst hn0
    have HGD := Lib.hid (show d = _ from (Nat.gcd_zero_right d).symm.trans HG.out)
    go_wp2_with fail
    go_ret
    exact ⟨ret_int (by rw [HGD.out]), HB.out⟩

set_option maxHeartbeats 2000000 in
set_option maxRecDepth 100000 in
theorem gcd_any (v1 : Value) (z : List Int) (lo1 hi1 : Nat) (w : World) (h1 : IntS w lo1 hi1 v1 z) (hh1 : hi1 ≤ w.heap.size) (l : List Nat) (hzl : z = natL l) (hl : ∀ x ∈ l, 1 ≤ x ∧ x ≤ 40) :
    Calls Try.prog 25 #[v1] w fun e w' => e = .returned (.int .i64 (gcdF 0 l : Nat)) ∧ Below w.heap.size w w' := by
  have HL := Lib.hid hl; clear hl
  have HZ0 := Lib.hid hzl
  have hlz : z.length = l.length := by rw [hzl, natL_length]
  clear hzl
  obtain ⟨zl, HZL⟩ : ∃ c : Nat, Hid (l.length = c) := ⟨_, Lib.hid rfl⟩
  rw [HZL.out] at hlz
  have F1 := Lib.hid h1
  obtain ⟨A1, c1, rfl, hc1, hd1⟩ := h1.dims
  clear h1
  go_enter Try.func25, Try.ntmps25
  rw [hlz]
  go_wp2_with fail
  go_loopw [3, 8] (fun dv iv wr => ∃ (k d : Nat), k ≤ zl ∧ iv = .int .i64 k ∧ dv = .int .i64 d ∧ Hid (d = gcdF 0 (l.take k)) ∧ d ≤ 1000000 ∧ Hid (Below w.heap.size w wr)) (fun dv iv _ => zl - (intOf iv).toNat)
  case atStart => exact ⟨0, 0, Nat.zero_le _, rfl, rfl, Lib.hid rfl, by omega, Lib.hid (Below.refl _ _)⟩
  case round =>
    obtain ⟨k, d, hk, rfl, rfl, HD, hd, HB⟩ := hrel
    by_cases hkl : k < zl
    case neg =>
      obtain rfl : k = zl := by omega
      go_wp2_with fail
      go_ret
      exact ⟨ret_int (by rw [HD.out, ← HZL.out, List.take_length]), HB.out⟩
    have hkl2 : k < l.length := by rw [HZL.out]; exact hkl
    obtain ⟨b1, o1, rfl, _, hbb, x1, _⟩ := (IntS.below F1.out HB.out hh1).opened (j := k) (by rw [hlz]; exact hkl)
    obtain ⟨x, HX⟩ : ∃ x, Hid (l.getD k 0 = x) := ⟨_, Lib.hid rfl⟩
    have hx := HL.out _ (getD_mem hkl2)
    rw [HX.out] at hx
    rw [HZ0.out, natL_nth hkl2, HX.out] at x1
    have HDN := Lib.hid (show gcdF 0 (l.take (k + 1)) = Nat.gcd d x by rw [gcdF_take hkl2, HX.out, ← HD.out])
    have hle : Nat.gcd d x ≤ x := Nat.le_of_dvd (by omega) (Nat.gcd_dvd_right d x)
    have hki : (k : Int) < zl := by omega
    obtain ⟨gg, HGG⟩ : ∃ gg, Hid (Nat.gcd d x = gg) := ⟨_, Lib.hid rfl⟩
    rw [HGG.out] at hle HDN
    go_wp2_with fail
    go_loopw [3, 5] (fun ev nv wr => ∃ (e n : Nat), ev = .int .i64 e ∧ nv = .int .i64 n ∧ e ≤ 1000000 ∧ n ≤ 1000000 ∧ Hid (Nat.gcd e n = gg) ∧ Hid (Below w.heap.size w wr)) (fun ev nv _ => (intOf nv).toNat)
    case atStart => exact ⟨d, x, rfl, rfl, by omega, by omega, HGG, HB⟩
    case round =>
      obtain ⟨e, n, rfl, rfl, he, hn, HG, HB2⟩ := hrel
      by_cases hn0 : n = 0
      case neg =>
        have hne : ((n : Int) != 0) = true := by simp; omega
        have hnz : ¬ (n : Int) = 0 := by omega
        have hme : ((n : Int) == 0) = false := by simp; omega
        have htm := tmodN e n
        have hlt : e % n < n := Nat.mod_lt _ (by omega)
        obtain ⟨r, HR⟩ : ∃ r, Hid (e % n = r) := ⟨_, Lib.hid rfl⟩
        rw [HR.out] at htm hlt
        go_wp2_with fail
        go_quiet (fail)
        go_wp2_with fail
        go_roundw
        case rel => exact ⟨n, r, rfl, rfl, hn, by omega, Lib.hid (by rw [← HG.out, ← HR.out]; exact gcd_turn e n), Lib.hid (below_drewN HB2.out _)⟩
        case measure => simp [intOf]; omega
      subst hn0
      obtain rfl : e = gg := (Nat.gcd_zero_right e).symm.trans HG.out
      go_wp2_with fail
      go_roundw
      case rel => exact ⟨k + 1, e, by omega, by go_num, rfl, Lib.hid HDN.out.symm, by omega, HB2⟩
      case measure => simp [intOf]; omega

set_option maxHeartbeats 2000000 in
set_option maxRecDepth 100000 in
theorem nuGcds_any (v1 : Value) (z : List Int) (lo1 hi1 : Nat) (w : World) (h1 : IntS w lo1 hi1 v1 z) (hh1 : hi1 ≤ w.heap.size) (l : List Nat) (hzl : z = natL l) (hl : ∀ x ∈ l, 1 ≤ x ∧ x ≤ 40) :
    Calls Try.prog 27 #[v1] w fun e w' => e = .returned (.int .i64 (gcdF 0 l : Nat)) ∧ Below w.heap.size w w' := by
  have HL := Lib.hid hl; clear hl
  have HZ0 := Lib.hid hzl
  have hlz : z.length = l.length := by rw [hzl, natL_length]
  clear hzl
  obtain ⟨zl, HZL⟩ : ∃ c : Nat, Hid (l.length = c) := ⟨_, Lib.hid rfl⟩
  rw [HZL.out] at hlz
  have F1 := Lib.hid h1
  obtain ⟨A1, c1, rfl, hc1, hd1⟩ := h1.dims
  clear h1
  go_enter Try.func27, Try.ntmps27
  rw [hlz]
  go_wp2_with fail
  go_loopw [3, 8] (fun dv iv wr => ∃ (k d : Nat), k ≤ zl ∧ iv = .int .i64 k ∧ dv = .int .i64 d ∧ Hid (d = gcdF 0 (l.take k)) ∧ d ≤ 1000000 ∧ Hid (Below w.heap.size w wr)) (fun dv iv _ => zl - (intOf iv).toNat)
  case atStart => exact ⟨0, 0, Nat.zero_le _, rfl, rfl, Lib.hid rfl, by omega, Lib.hid (Below.refl _ _)⟩
  case round =>
    obtain ⟨k, d, hk, rfl, rfl, HD, hd, HB⟩ := hrel
    by_cases hkl : k < zl
    case neg =>
      obtain rfl : k = zl := by omega
      go_wp2_with fail
      go_ret
      exact ⟨ret_int (by rw [HD.out, ← HZL.out, List.take_length]), HB.out⟩
    have hkl2 : k < l.length := by rw [HZL.out]; exact hkl
    obtain ⟨b1, o1, rfl, _, hbb, x1, _⟩ := (IntS.below F1.out HB.out hh1).opened (j := k) (by rw [hlz]; exact hkl)
    obtain ⟨x, HX⟩ : ∃ x, Hid (l.getD k 0 = x) := ⟨_, Lib.hid rfl⟩
    have hx := HL.out _ (getD_mem hkl2)
    rw [HX.out] at hx
    rw [HZ0.out, natL_nth hkl2, HX.out] at x1
    have HDN := Lib.hid (show gcdF 0 (l.take (k + 1)) = Nat.gcd d x by rw [gcdF_take hkl2, HX.out, ← HD.out])
    have hle : Nat.gcd d x ≤ x := Nat.le_of_dvd (by omega) (Nat.gcd_dvd_right d x)
    have hki : (k : Int) < zl := by omega
    obtain ⟨gg, HGG⟩ : ∃ gg, Hid (Nat.gcd d x = gg) := ⟨_, Lib.hid rfl⟩
    rw [HGG.out] at hle HDN
    go_wp2_with fail
    refine (nuGcd_any d x _ (by omega) (by omega)).mono ?_
    rintro e w' ⟨rfl, hbw⟩
    have HB2 := Lib.hid (HB.out.trans (hbw.mono HB.out.size))
    rw [HGG.out]
    go_wp2_with fail
    go_roundw
    case rel => exact ⟨k + 1, gg, by omega, by go_num, rfl, Lib.hid HDN.out.symm, by omega, HB2⟩
    case measure => simp [intOf]; omega

set_option maxHeartbeats 1000000 in
set_option maxRecDepth 100000 in
theorem areLengths_any (v1 : Value) (z : List Int) (lo1 hi1 : Nat) (w : World) (h1 : IntS w lo1 hi1 v1 z) (hh1 : hi1 ≤ w.heap.size)  :
    Calls Try.prog 17 #[v1] w fun e w' => e = .returned (.bool (lensB z)) ∧ w = w' := by
  have F1 := Lib.hid h1
  obtain ⟨A1, c1, rfl, hc1, hd1⟩ := h1.dims
  clear h1
  go_enter Try.func17, Try.ntmps17
  by_cases h0 : 0 < z.length
  case neg =>
    have hd : decide ((0 : Int) < (z.length : Int)) = false := decide_eq_false (by omega)
    have hd2 : decide (0 < z.length) = false := decide_eq_false h0
    have HE := Lib.hid (show lensB z = false by unfold lensB; rw [hd2]; rfl)
    have h0' : ¬ (0 : Int) < (z.length : Int) := by omega
    go_wp2_with fail
    go_ret
    exact ⟨ret_bool HE.out.symm, rfl⟩
  have hd : decide ((0 : Int) < (z.length : Int)) = true := decide_eq_true (by omega)
  have hd2 : decide (0 < z.length) = true := decide_eq_true h0
  have HE := Lib.hid (show lensB z = rising z 1 40 by unfold lensB; rw [hd2]; rfl)
  have h0' : (0 : Int) < (z.length : Int) := by omega
  go_wp2_with fail
  refine (increasing_any _ z 1 40 _ _ _ F1.out).mono ?_
  rintro e w' ⟨rfl, rfl⟩
  go_wp2_with fail
  go_ret
  exact ⟨ret_bool HE.out.symm, rfl⟩

set_option maxHeartbeats 1000000 in
set_option maxRecDepth 100000 in
theorem nuLengths_any (v1 : Value) (z : List Int) (lo1 hi1 : Nat) (w : World) (h1 : IntS w lo1 hi1 v1 z) (hh1 : hi1 ≤ w.heap.size)  :
    Calls Try.prog 20 #[v1] w fun e w' => e = .returned (.bool (lensB z)) ∧ w = w' := by
  have F1 := Lib.hid h1
  obtain ⟨A1, c1, rfl, hc1, hd1⟩ := h1.dims
  clear h1
  go_enter Try.func20, Try.ntmps20
  by_cases h0 : 0 < z.length
  case neg =>
    have hd : decide ((0 : Int) < (z.length : Int)) = false := decide_eq_false (by omega)
    have hd2 : decide (0 < z.length) = false := decide_eq_false h0
    have HE := Lib.hid (show lensB z = false by unfold lensB; rw [hd2]; rfl)
    have h0' : ¬ (0 : Int) < (z.length : Int) := by omega
    go_wp2_with fail
    go_ret
    exact ⟨ret_bool HE.out.symm, rfl⟩
  have hd : decide ((0 : Int) < (z.length : Int)) = true := decide_eq_true (by omega)
  have hd2 : decide (0 < z.length) = true := decide_eq_true h0
  have HE := Lib.hid (show lensB z = rising z 1 40 by unfold lensB; rw [hd2]; rfl)
  have h0' : (0 : Int) < (z.length : Int) := by omega
  go_wp2_with fail
  refine (l1Rising_any _ z 1 40 _ _ _ F1.out).mono ?_
  rintro e w' ⟨rfl, rfl⟩
  go_wp2_with fail
  go_ret
  exact ⟨ret_bool HE.out.symm, rfl⟩

set_option maxHeartbeats 1000000 in
set_option maxRecDepth 100000 in
theorem GcdOf_impl (v1 : Value) (z : List Int) (lo1 hi1 : Nat) (w : World) (h1 : IntS w lo1 hi1 v1 z) (hh1 : hi1 ≤ w.heap.size)  :
    Calls Try.prog 12 #[v1] w fun e w' => e = .returned (.tuple #[.int .i64 (gcdZ z), .bool (lensB z)]) ∧ Below w.heap.size w w' := by
  have F1 := Lib.hid h1
  obtain ⟨A1, c1, rfl, hc1, hd1⟩ := h1.dims
  clear h1
  go_enter Try.func12, Try.ntmps12
  go_wp2_with fail
  refine (areLengths_any _ z _ _ _ F1.out (by omega)).mono ?_
  rintro e w' ⟨rfl, rfl⟩
  cases hb : lensB z with
  | false =>
    have HE := Lib.hid (gcdZ_no hb)
    go_wp2_with fail
    go_ret2
    rw [HE.out, hb]
    exact ⟨rfl, Below.refl _ _⟩
  | true =>
    obtain ⟨l, HZ, hl⟩ := lensB_of hb
    have HE := Lib.hid (show gcdZ z = (gcdF 0 l : Nat) by rw [HZ]; exact gcdZ_nat (by rw [← HZ]; exact hb))
    have HZH := Lib.hid HZ; clear HZ
    go_wp2_with fail
    refine (gcd_any _ z _ _ _ F1.out (by omega) l HZH.out hl.is).mono ?_
    rintro e w' ⟨rfl, hbw⟩
    go_wp2_with fail
    go_ret2
    rw [HE.out, hb]
    exact ⟨rfl, hbw⟩

set_option maxHeartbeats 1000000 in
set_option maxRecDepth 100000 in
theorem GcdOf_spec (v1 : Value) (z : List Int) (lo1 hi1 : Nat) (w : World) (h1 : IntS w lo1 hi1 v1 z) (hh1 : hi1 ≤ w.heap.size)  :
    Calls Try.prog 13 #[v1] w fun e w' => e = .returned (.tuple #[.int .i64 (gcdZ z), .bool (lensB z)]) ∧ Below w.heap.size w w' := by
  have F1 := Lib.hid h1
  obtain ⟨A1, c1, rfl, hc1, hd1⟩ := h1.dims
  clear h1
  go_enter Try.func13, Try.ntmps13
  go_wp2_with fail
  refine (nuLengths_any _ z _ _ _ F1.out (by omega)).mono ?_
  rintro e w' ⟨rfl, rfl⟩
  cases hb : lensB z with
  | false =>
    have HE := Lib.hid (gcdZ_no hb)
    go_wp2_with fail
    go_ret2
    rw [HE.out, hb]
    exact ⟨rfl, Below.refl _ _⟩
  | true =>
    obtain ⟨l, HZ, hl⟩ := lensB_of hb
    have HE := Lib.hid (show gcdZ z = (gcdF 0 l : Nat) by rw [HZ]; exact gcdZ_nat (by rw [← HZ]; exact hb))
    have HZH := Lib.hid HZ; clear HZ
    go_wp2_with fail
    refine (nuGcds_any _ z _ _ _ F1.out (by omega) l HZH.out hl.is).mono ?_
    rintro e w' ⟨rfl, hbw⟩
    go_wp2_with fail
    go_ret2
    rw [HE.out, hb]
    exact ⟨rfl, hbw⟩

end Go.Proofs.Ytanikenkfnhicaa
