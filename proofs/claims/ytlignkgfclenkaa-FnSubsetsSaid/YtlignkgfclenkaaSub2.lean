/-
  Contracts: the rank of a subset (program and reference).
-/
import Derived.Test.YtlignkgfclenkaaSub
namespace Go.Proofs.Ytlignkgfclenkaa
open Go.ChangeShapes Go.WideShapes Go.ChangeAt Go.RowKit
set_option linter.unusedVariables false

theorem rankNo {n : Int} {l : List Int} (h : rankOk n l = false) : rankV n l = 0 := by unfold rankV; rw [h]; rfl
theorem drop_at {l : List Int} {i : Nat} (h : i < l.length) : l.drop i = nth l i :: l.drop (i + 1) := by rw [List.drop_eq_getElem_cons h, nth_eq h]

set_option maxHeartbeats 2000000 in
set_option maxRecDepth 100000 in
theorem SubsetRank_impl (n : Int) (v2 : Value) (l : List Int) (lo2 hi2 : Nat) (w : World) (h2 : IntS w lo2 hi2 v2 l) (hh2 : hi2 ≤ w.heap.size) (hn64 : I64 n) :
    Calls Try.prog 30 #[.int .i64 n, v2] w fun e w' => e = .returned (.tuple #[.int .i64 (rankV n l : Nat), .bool (rankOk n l)]) ∧ Below w.heap.size w w' := by
  have F2 := Lib.hid h2
  obtain ⟨A2, c2, rfl, hc2, hd2⟩ := h2.dims
  clear h2
  go_enter Try.func30, Try.ntmps30
  go_wp2_with fail
  refine (within_any n 0 60 _).mono ?_
  rintro e w' ⟨rfl, rfl⟩
  by_cases g1 : inB n 0 60 = true
  case neg =>
    have g1' : inB n 0 60 = false := by simpa using g1
    rw [g1']
    have G1 := Lib.hid g1'; clear g1 g1'
    go_wp2_with fail
    go_ret2
    exact ⟨ret_ivn (by rw [rankNo (show rankOk n l = false by unfold rankOk; rw [G1.out]; rfl)]; rfl) (show rankOk n l = false by unfold rankOk; rw [G1.out]; rfl).symm, (Below.refl _ _)⟩
  rw [g1]
  have G1 := Lib.hid g1; clear g1
  have hn := inB_le G1.out
  have hnw : IntKind.i64.wrap (n - 1) = n - 1 := IntWalk.i64_in _ (by omega)
  go_wp2_with fail
  refine (increasing_any _ l 0 (n - 1) _ _ _ F2.out).mono ?_
  rintro e w' ⟨rfl, rfl⟩
  by_cases g2 : rising l 0 (n - 1) = true
  case neg =>
    have g2' : rising l 0 (n - 1) = false := by simpa using g2
    rw [g2']
    have G2 := Lib.hid g2'; clear g2 g2'
    go_wp2_with fail
    go_ret2
    exact ⟨ret_ivn (by rw [rankNo (show rankOk n l = false by unfold rankOk; rw [G2.out]; simp)]; rfl) (show rankOk n l = false by unfold rankOk; rw [G2.out]; simp).symm, (Below.refl _ _)⟩
  rw [g2]
  have G2 := Lib.hid g2; clear g2
  have HOK := Lib.hid (show rankOk n l = true by unfold rankOk; rw [G1.out, G2.out]; rfl)
  have HASC0 := Lib.hid (rising_asc hn.1 G2.out)
  obtain ⟨N, rfl⟩ : ∃ m : Nat, n = m := ⟨n.toNat, by omega⟩
  have hV : rankV (N : Int) l = rk N 0 l := by unfold rankV; rw [if_pos HOK.out]; simp
  have HV := Lib.hid hV; clear hV
  simp only [Int.toNat_natCast] at HASC0
  have hlen := asc_len HASC0.out
  have htot : rk N 0 l ≤ 1152921504606846976 := by have := (asc_rk HASC0.out).1; have := ch_small (n := N) (k := l.length) (by omega); omega
  obtain ⟨tot, HT⟩ : ∃ x, Hid (rk N 0 l = x) := ⟨_, Lib.hid rfl⟩
  rw [HT.out] at htot HV
  obtain ⟨len, HLEN⟩ : ∃ x, Hid (l.length = x) := ⟨_, Lib.hid rfl⟩
  rw [HLEN.out] at hlen hc2
  rw [HLEN.out]
  clear hnw
  go_wp2_with fail
  go_loopw [22, 6, 7] (fun iv sv yv wr => ∃ (i s y : Nat), i ≤ len ∧ iv = .int .i64 i ∧ sv = .int .i64 s ∧ yv = .int .i64 y ∧ y ≤ N ∧ Hid (s + rk (N - y) y (l.drop i) = tot) ∧ Hid (Asc (N - y) y (l.drop i)) ∧ Hid (Below w.heap.size w wr)) (fun iv sv yv _ => len - (intOf iv).toNat)
  case atStart => exact ⟨0, 0, 0, Nat.zero_le _, rfl, rfl, rfl, Nat.zero_le _, Lib.hid (by rw [List.drop_zero, Nat.sub_zero, Nat.zero_add]; exact HT.out), Lib.hid (by rw [List.drop_zero]; exact HASC0.out), Lib.hid (Below.refl _ _)⟩
  case round =>
    obtain ⟨i, s, y, hi, rfl, rfl, rfl, hy, HR, HASC, HBW⟩ := hrel
    have hbs := HBW.out.size
    by_cases hlt : i < len
    case neg =>
      obtain rfl : i = len := by omega
      have es : s = tot := by have := HR.out; rw [List.drop_eq_nil_of_le (by rw [HLEN.out]; exact Nat.le_refl _), rk_nil] at this; omega
      go_wp2_with fail
      go_ret2
      exact ⟨ret_ivn (by rw [HV.out, es]) HOK.out.symm, HBW.out⟩
    have hii : (i : Int) < len := by omega
    have hdr := drop_at (l := l) (i := i) (by rw [HLEN.out]; exact hlt)
    have HDL := Lib.hid (show (l.drop (i + 1)).length = len - i - 1 by rw [List.length_drop, HLEN.out]; omega)
    have h2 := HR.out; have h3 := HASC.out
    rw [hdr] at h2 h3
    obtain ⟨rest, HREST⟩ : ∃ x, Hid (l.drop (i + 1) = x) := ⟨_, Lib.hid rfl⟩
    rw [HREST.out] at h2 h3 HDL
    have hz := h3.2 (nth l i) (by simp)
    obtain ⟨z, HZ⟩ : ∃ z : Nat, Hid (nth l i = z) := ⟨(nth l i).toNat, Lib.hid (by omega)⟩
    rw [HZ.out] at h2 h3 hz
    have hyz : y ≤ z := by omega
    have hzN : z < N := by omega
    have HR2 := Lib.hid h2
    have HA2 := Lib.hid h3
    have hF := Lib.hid (F2.out.below HBW.out (by omega))
    obtain ⟨b2, o2, rfl, _, _, xe, _⟩ := IntS.opened hF.out (j := i) (by rw [HLEN.out]; exact hlt)
    rw [HZ.out] at xe
    clear h2 h3 hdr hz HR HASC
    go_wp2_with fail
    obtain ⟨wq, rfl⟩ : ∃ wq : World, wq = wr := ⟨_, rfl⟩
    go_loopw [6, 7] (fun sv yv wr => ∃ (s2 y2 : Nat), y ≤ y2 ∧ y2 ≤ z ∧ sv = .int .i64 s2 ∧ yv = .int .i64 y2 ∧ Hid (s2 + rk (N - y2) y2 ((z : Int) :: rest) = tot) ∧ Hid (Asc (N - y2) y2 ((z : Int) :: rest)) ∧ Hid (Below w.heap.size w wr)) (fun sv yv _ => z - (intOf yv).toNat)
    case atStart => exact ⟨s, y, Nat.le_refl _, hyz, rfl, rfl, HR2, HA2, HBW⟩
    case round =>
      obtain ⟨s2, y2, hy1, hy2, rfl, rfl, HR, HASC, HBW⟩ := hrel
      have hbs2 := HBW.out.size
      obtain ⟨m, HM⟩ : ∃ m : Nat, Hid (N - y2 = m + 1) := ⟨N - y2 - 1, Lib.hid (by omega)⟩
      have hs2 : s2 ≤ tot := by have := HR.out; omega
      by_cases hlz : y2 < z
      case neg =>
        obtain rfl : y2 = z := by omega
        have HR3 := Lib.hid (show s2 + rk m (y2 + 1) rest = tot by have := HR.out; rw [HM.out, rk_yes] at this; exact this)
        have HA3 := Lib.hid (show Asc m (y2 + 1) rest by have := HASC.out; rw [HM.out] at this; exact this.tail)
        have hmy : N - (y2 + 1) = m := by have := HM.out; omega
        have HMY := Lib.hid hmy; clear hmy
        go_wp2_with fail
        go_roundw
        case rel => exact ⟨i + 1, s2, y2 + 1, by omega, by go_num, rfl, by go_num, by omega, Lib.hid (by rw [HMY.out, HREST.out]; exact HR3.out), Lib.hid (by rw [HMY.out, HREST.out]; exact HA3.out), HBW⟩
        case measure => simp [intOf]; omega
      obtain ⟨j, HJ⟩ : ∃ j : Nat, Hid (rest.length = j) := ⟨_, Lib.hid rfl⟩
      have hj : j + 1 = len - i := by have := HDL.out; rw [HJ.out] at this; omega
      obtain ⟨c, HC⟩ : ∃ c : Nat, Hid (ch m j = c) := ⟨_, Lib.hid rfl⟩
      have HR3 := Lib.hid (show s2 + c + rk m (y2 + 1) ((z : Int) :: rest) = tot by have := HR.out; rw [HM.out, rk_no (by omega), HJ.out, HC.out] at this; omega)
      have HA3 := Lib.hid (show Asc m (y2 + 1) ((z : Int) :: rest) by have := HASC.out; rw [HM.out] at this; exact this.next (by omega))
      have hmy : N - (y2 + 1) = m := by have := HM.out; omega
      have HMY := Lib.hid hmy; clear hmy
      have hsc : s2 + c ≤ tot := by have := HR3.out; omega
      have hmN : m + 1 ≤ N := by have := HM.out; omega
      obtain ⟨m1, hm1⟩ : ∃ q : Nat, q = m + 1 := ⟨_, rfl⟩
      obtain ⟨j1, hj1⟩ : ∃ q : Nat, q = j + 1 := ⟨_, rfl⟩
      have hw1 : IntKind.i64.wrap ((N : Int) - (y2 : Int)) = (m1 : Int) := by rw [IntWalk.i64_in _ (by omega)]; have := HM.out; omega
      have hw2 : IntKind.i64.wrap ((m1 : Int) - 1) = (m : Int) := by rw [IntWalk.i64_in _ (by omega)]; omega
      have hw3 : IntKind.i64.wrap ((len : Int) - (i : Int)) = (j1 : Int) := by rw [IntWalk.i64_in _ (by omega)]; omega
      have hw4 : IntKind.i64.wrap ((j1 : Int) - 1) = (j : Int) := by rw [IntWalk.i64_in _ (by omega)]; omega
      have hw5 : IntKind.i64.wrap ((s2 : Int) + (c : Int)) = ((s2 + c : Nat) : Int) := by rw [IntWalk.i64_in _ (by omega)]; omega
      obtain ⟨s3, HS3⟩ : ∃ q : Nat, Hid (s2 + c = q) := ⟨_, Lib.hid rfl⟩
      rw [HS3.out] at hw5 HR3
      have hyi : (y2 : Int) < z := by omega
      have hm60 : m ≤ 60 := by omega
      have hj60 : j ≤ 60 := by omega
      clear hm1 hj1 hj
      go_wp2_with fail
      refine (binomial_any m j _ hm60 hj60).mono ?_
      rintro e W5 ⟨rfl, hb5⟩
      rw [HC.out]
      have HB5 := Lib.hid (HBW.out.trans (hb5.mono hbs2))
      clear hb5
      go_wp2_with fail
      go_roundw
      case rel => exact ⟨s3, y2 + 1, by omega, by omega, rfl, by go_num, Lib.hid (by rw [HMY.out]; exact HR3.out), Lib.hid (by rw [HMY.out]; exact HA3.out), HB5⟩
      case measure => simp [intOf]; omega

set_option maxHeartbeats 2000000 in
set_option maxRecDepth 100000 in
theorem SubsetRank_spec (n : Int) (v2 : Value) (l : List Int) (lo2 hi2 : Nat) (w : World) (h2 : IntS w lo2 hi2 v2 l) (hh2 : hi2 ≤ w.heap.size) (hn64 : I64 n) :
    Calls Try.prog 33 #[.int .i64 n, v2] w fun e w' => e = .returned (.tuple #[.int .i64 (rankV n l : Nat), .bool (rankOk n l)]) ∧ Below w.heap.size w w' := by
  have F2 := Lib.hid h2
  obtain ⟨A2, c2, rfl, hc2, hd2⟩ := h2.dims
  clear h2
  go_enter Try.func33, Try.ntmps33
  go_wp2_with fail
  refine (l1In_any n 0 60 _).mono ?_
  rintro e w' ⟨rfl, rfl⟩
  by_cases g1 : inB n 0 60 = true
  case neg =>
    have g1' : inB n 0 60 = false := by simpa using g1
    rw [g1']
    have G1 := Lib.hid g1'; clear g1 g1'
    go_wp2_with fail
    go_ret2
    exact ⟨ret_ivn (by rw [rankNo (show rankOk n l = false by unfold rankOk; rw [G1.out]; rfl)]; rfl) (show rankOk n l = false by unfold rankOk; rw [G1.out]; rfl).symm, (Below.refl _ _)⟩
  rw [g1]
  have G1 := Lib.hid g1; clear g1
  have hn := inB_le G1.out
  have hnw : IntKind.i64.wrap (n - 1) = n - 1 := IntWalk.i64_in _ (by omega)
  go_wp2_with fail
  refine (l1Rising_any _ l 0 (n - 1) _ _ _ F2.out).mono ?_
  rintro e w' ⟨rfl, rfl⟩
  by_cases g2 : rising l 0 (n - 1) = true
  case neg =>
    have g2' : rising l 0 (n - 1) = false := by simpa using g2
    rw [g2']
    have G2 := Lib.hid g2'; clear g2 g2'
    go_wp2_with fail
    go_ret2
    exact ⟨ret_ivn (by rw [rankNo (show rankOk n l = false by unfold rankOk; rw [G2.out]; simp)]; rfl) (show rankOk n l = false by unfold rankOk; rw [G2.out]; simp).symm, (Below.refl _ _)⟩
  rw [g2]
  have G2 := Lib.hid g2; clear g2
  have HOK := Lib.hid (show rankOk n l = true by unfold rankOk; rw [G1.out, G2.out]; rfl)
  have HASC0 := Lib.hid (rising_asc hn.1 G2.out)
  obtain ⟨N, rfl⟩ : ∃ m : Nat, n = m := ⟨n.toNat, by omega⟩
  have hV : rankV (N : Int) l = rk N 0 l := by unfold rankV; rw [if_pos HOK.out]; simp
  have HV := Lib.hid hV; clear hV
  simp only [Int.toNat_natCast] at HASC0
  have hlen := asc_len HASC0.out
  have htot : rk N 0 l ≤ 1152921504606846976 := by have := (asc_rk HASC0.out).1; have := ch_small (n := N) (k := l.length) (by omega); omega
  obtain ⟨tot, HT⟩ : ∃ x, Hid (rk N 0 l = x) := ⟨_, Lib.hid rfl⟩
  rw [HT.out] at htot HV
  obtain ⟨len, HLEN⟩ : ∃ x, Hid (l.length = x) := ⟨_, Lib.hid rfl⟩
  rw [HLEN.out] at hlen hc2
  rw [HLEN.out]
  clear hnw
  go_wp2_with fail
  go_loopw [23, 6, 7] (fun iv sv yv wr => ∃ (i s y : Nat), i ≤ len ∧ iv = .int .i64 i ∧ sv = .int .i64 s ∧ yv = .int .i64 y ∧ y ≤ N ∧ Hid (s + rk (N - y) y (l.drop i) = tot) ∧ Hid (Asc (N - y) y (l.drop i)) ∧ Hid (Below w.heap.size w wr)) (fun iv sv yv _ => len - (intOf iv).toNat)
  case atStart => exact ⟨0, 0, 0, Nat.zero_le _, rfl, rfl, rfl, Nat.zero_le _, Lib.hid (by rw [List.drop_zero, Nat.sub_zero, Nat.zero_add]; exact HT.out), Lib.hid (by rw [List.drop_zero]; exact HASC0.out), Lib.hid (Below.refl _ _)⟩
  case round =>
    obtain ⟨i, s, y, hi, rfl, rfl, rfl, hy, HR, HASC, HBW⟩ := hrel
    have hbs := HBW.out.size
    by_cases hlt : i < len
    case neg =>
      obtain rfl : i = len := by omega
      have es : s = tot := by have := HR.out; rw [List.drop_eq_nil_of_le (by rw [HLEN.out]; exact Nat.le_refl _), rk_nil] at this; omega
      go_wp2_with fail
      go_ret2
      exact ⟨ret_ivn (by rw [HV.out, es]) HOK.out.symm, HBW.out⟩
    have hii : (i : Int) < len := by omega
    have hdr := drop_at (l := l) (i := i) (by rw [HLEN.out]; exact hlt)
    have HDL := Lib.hid (show (l.drop (i + 1)).length = len - i - 1 by rw [List.length_drop, HLEN.out]; omega)
    have h2 := HR.out; have h3 := HASC.out
    rw [hdr] at h2 h3
    obtain ⟨rest, HREST⟩ : ∃ x, Hid (l.drop (i + 1) = x) := ⟨_, Lib.hid rfl⟩
    rw [HREST.out] at h2 h3 HDL
    have hz := h3.2 (nth l i) (by simp)
    obtain ⟨z, HZ⟩ : ∃ z : Nat, Hid (nth l i = z) := ⟨(nth l i).toNat, Lib.hid (by omega)⟩
    rw [HZ.out] at h2 h3 hz
    have hyz : y ≤ z := by omega
    have hzN : z < N := by omega
    have HR2 := Lib.hid h2
    have HA2 := Lib.hid h3
    have hF := Lib.hid (F2.out.below HBW.out (by omega))
    obtain ⟨b2, o2, rfl, _, _, xe, _⟩ := IntS.opened hF.out (j := i) (by rw [HLEN.out]; exact hlt)
    rw [HZ.out] at xe
    clear h2 h3 hdr hz HR HASC
    go_wp2_with fail
    obtain ⟨wq, rfl⟩ : ∃ wq : World, wq = wr := ⟨_, rfl⟩
    go_loopw [6, 10] (fun sv yv wr => ∃ (s2 y2 : Nat), y ≤ y2 ∧ y2 ≤ z ∧ sv = .int .i64 s2 ∧ yv = .int .i64 y2 ∧ Hid (s2 + rk (N - y2) y2 ((z : Int) :: rest) = tot) ∧ Hid (Asc (N - y2) y2 ((z : Int) :: rest)) ∧ Hid (Below w.heap.size w wr)) (fun sv yv _ => z - (intOf yv).toNat)
    case atStart => exact ⟨s, y, Nat.le_refl _, hyz, rfl, rfl, HR2, HA2, HBW⟩
    case round =>
      obtain ⟨s2, y2, hy1, hy2, rfl, rfl, HR, HASC, HBW⟩ := hrel
      have hbs2 := HBW.out.size
      obtain ⟨m, HM⟩ : ∃ m : Nat, Hid (N - y2 = m + 1) := ⟨N - y2 - 1, Lib.hid (by omega)⟩
      have hs2 : s2 ≤ tot := by have := HR.out; omega
      by_cases hlz : y2 < z
      case neg =>
        obtain rfl : y2 = z := by omega
        have HR3 := Lib.hid (show s2 + rk m (y2 + 1) rest = tot by have := HR.out; rw [HM.out, rk_yes] at this; exact this)
        have HA3 := Lib.hid (show Asc m (y2 + 1) rest by have := HASC.out; rw [HM.out] at this; exact this.tail)
        have hmy : N - (y2 + 1) = m := by have := HM.out; omega
        have HMY := Lib.hid hmy; clear hmy
        go_wp2_with fail
        go_roundw
        case rel => exact ⟨i + 1, s2, y2 + 1, by omega, by go_num, rfl, by go_num, by omega, Lib.hid (by rw [HMY.out, HREST.out]; exact HR3.out), Lib.hid (by rw [HMY.out, HREST.out]; exact HA3.out), HBW⟩
        case measure => simp [intOf]; omega
      obtain ⟨j, HJ⟩ : ∃ j : Nat, Hid (rest.length = j) := ⟨_, Lib.hid rfl⟩
      have hj : j + 1 = len - i := by have := HDL.out; rw [HJ.out] at this; omega
      obtain ⟨c, HC⟩ : ∃ c : Nat, Hid (ch m j = c) := ⟨_, Lib.hid rfl⟩
      have HR3 := Lib.hid (show s2 + c + rk m (y2 + 1) ((z : Int) :: rest) = tot by have := HR.out; rw [HM.out, rk_no (by omega), HJ.out, HC.out] at this; omega)
      have HA3 := Lib.hid (show Asc m (y2 + 1) ((z : Int) :: rest) by have := HASC.out; rw [HM.out] at this; exact this.next (by omega))
      have hmy : N - (y2 + 1) = m := by have := HM.out; omega
      have HMY := Lib.hid hmy; clear hmy
      have hsc : s2 + c ≤ tot := by have := HR3.out; omega
      have hmN : m + 1 ≤ N := by have := HM.out; omega
      obtain ⟨m1, hm1⟩ : ∃ q : Nat, q = m + 1 := ⟨_, rfl⟩
      obtain ⟨j1, hj1⟩ : ∃ q : Nat, q = j + 1 := ⟨_, rfl⟩
      have hw1 : IntKind.i64.wrap ((N : Int) - (y2 : Int)) = (m1 : Int) := by rw [IntWalk.i64_in _ (by omega)]; have := HM.out; omega
      have hw2 : IntKind.i64.wrap ((m1 : Int) - 1) = (m : Int) := by rw [IntWalk.i64_in _ (by omega)]; omega
      have hw3 : IntKind.i64.wrap ((len : Int) - (i : Int)) = (j1 : Int) := by rw [IntWalk.i64_in _ (by omega)]; omega
      have hw4 : IntKind.i64.wrap ((j1 : Int) - 1) = (j : Int) := by rw [IntWalk.i64_in _ (by omega)]; omega
      have hw5 : IntKind.i64.wrap ((s2 : Int) + (c : Int)) = ((s2 + c : Nat) : Int) := by rw [IntWalk.i64_in _ (by omega)]; omega
      obtain ⟨s3, HS3⟩ : ∃ q : Nat, Hid (s2 + c = q) := ⟨_, Lib.hid rfl⟩
      rw [HS3.out] at hw5 HR3
      have hyi : (y2 : Int) < z := by omega
      have hm60 : m ≤ 60 := by omega
      have hj60 : j ≤ 60 := by omega
      clear hm1 hj1 hj
      go_wp2_with fail
      refine (nuChoose_any m j _ hm60 hj60).mono ?_
      rintro e W5 ⟨rfl, hb5⟩
      rw [HC.out]
      have HB5 := Lib.hid (HBW.out.trans (hb5.mono hbs2))
      clear hb5
      go_wp2_with fail
      go_roundw
      case rel => exact ⟨s3, y2 + 1, by omega, by omega, rfl, by go_num, Lib.hid (by rw [HMY.out]; exact HR3.out), Lib.hid (by rw [HMY.out]; exact HA3.out), HB5⟩
      case measure => simp [intOf]; omega

end Go.Proofs.Ytlignkgfclenkaa
