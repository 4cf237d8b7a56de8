/-
  The walk of the law on subsets: it returns true.
-/
import Derived.Test.YtlignkgfclenkaaSub2
import Derived.Test.YtlignkgfclenkaaSubD
import Derived.Test.YtlignkgfclenkaaSubL
namespace Go.Proofs.Ytlignkgfclenkaa
open Go.ChangeShapes Go.WideShapes Go.ChangeAt Go.RowKit
set_option linter.unusedVariables false

theorem FnSubsets.own : ownKnob Try.prog.godebug = none := by kernel_rfl

set_option maxHeartbeats 4000000 in
set_option maxRecDepth 100000 in
theorem FnSubsets_walk (v1 : Value) (code : List Int) (lo1 hi1 : Nat) (v2 : Value) (more : List Int) (lo2 hi2 : Nat) (w : World) (h1 : ByS w lo1 hi1 v1 code) (hh1 : hi1 ≤ w.heap.size) (h2 : ByS w lo2 hi2 v2 more) (hh2 : hi2 ≤ w.heap.size) (hb1 : Bytes code) (hb2 : Bytes more) :
    Calls Try.prog 7 #[v1, v2] w fun e w' => e = .returned (.bool true) ∧ Below w.heap.size w w' := by
  have HB1 := Lib.hid hb1; clear hb1
  have HB2 := Lib.hid hb2; clear hb2
  have F1 := Lib.hid h1
  obtain ⟨A1, c1, rfl, hc1, hd1⟩ := h1.dims
  clear h1
  have F2 := Lib.hid h2
  obtain ⟨A2, c2, rfl, hc2, hd2⟩ := h2.dims
  clear h2
  go_enter Try.func7, Try.ntmps7
  go_wp2_with fail
  refine (big_any _ code lo1 hi1 _ more lo2 hi2 _ F1.out (by omega) F2.out (by omega)).mono ?_
  rintro e w' ⟨rfl, rfl⟩
  by_cases hsz : code.length + more.length ≤ 1048576
  case neg =>
    have HZ := Lib.hid (show (!decide (code.length + more.length ≤ 1048576)) = true by simp; omega)
    rw [HZ.out]
    go_wp2_with fail
    go_ret
    exact ⟨rfl, (Below.refl _ _)⟩
  have HZ := Lib.hid (show (!decide (code.length + more.length ≤ 1048576)) = false by simp; omega)
  rw [HZ.out]
  go_wp2_with fail
  refine (DrawSubsetsOf_any _ code lo1 hi1 _ F1.out (by omega) HB1.out (by omega)).mono ?_
  rintro e W1 ⟨n, k, rfl, n0, n1, k0, k1, hb1⟩
  have hg1 := grown_below hb1; clear hb1
  have hs1 := hg1.size
  have HF1 := Lib.hid ((Turned.refl w.heap.size w.heap.size w).still hg1)
  go_wp2_with fail
  refine (SubsetsOf_impl n k _).mono ?_
  rintro e W2 ⟨q1, rfl, hq1, hb2⟩
  have hg2 := grown_below hb2; clear hb2
  have hs2 := hg2.size
  have HF2 := Lib.hid (HF1.out.still hg2); clear HF1
  have Q12 := Lib.hid hq1; clear hq1
  obtain ⟨Aq, cq, rfl, hcq, hdq⟩ := SS.dims Q12.out
  go_wp2_with fail
  refine (SubsetsOf_spec n k _).mono ?_
  rintro e W3 ⟨q2, rfl, hq2, hb3⟩
  have hg3 := grown_below hb3; clear hb3
  have hs3 := hg3.size
  have HF3 := Lib.hid (HF2.out.still hg3); clear HF2
  have Q13 := Lib.hid (ISS.still Q12.out hg3 (by omega)); clear Q12
  have Q23 := Lib.hid hq2; clear hq2
  obtain ⟨Ap, cp, rfl, hcp, hdp⟩ := SS.dims Q23.out
  obtain ⟨ok, HOK⟩ : ∃ b, Hid (subsOk n k = b) := ⟨_, Lib.hid rfl⟩
  obtain ⟨ls, HLS⟩ : ∃ l, Hid (subsL n k = l) := ⟨_, Lib.hid rfl⟩
  rw [HOK.out]
  rw [HLS.out] at Q13 Q23 hcq hcp
  rw [HLS.out]
  obtain ⟨ll, HLL⟩ : ∃ x, Hid (ls.length = x) := ⟨_, Lib.hid rfl⟩
  have hnb : (ok != ok) = false := by simp
  go_wp2_with fail
  refine (sameLists_same _ ls _ _ _ ls _ _ _ Q13.out (by omega) Q23.out (by omega) rfl).mono ?_
  rintro e W4 ⟨rfl, hb4⟩
  have hg4 := grown_below hb4; clear hb4
  have hs4 := hg4.size
  have HF4 := Lib.hid (HF3.out.still hg4); clear HF3
  have Q14 := Lib.hid (ISS.still Q13.out hg4 (by omega)); clear Q13
  have Q24 := Lib.hid (ISS.still Q23.out hg4 (by omega)); clear Q23
  cases ok with
  | false =>
    go_wp2_with fail
    refine (DrawSubsetRank_any _ more lo2 hi2 _ (ByS.turned F2.out HF4.out (by omega) (by omega)) (by omega) HB2.out (by omega)).mono ?_
    rintro e W5 ⟨m, rs, set, rfl, m0, m1, hsl, hsm, hrs, hb5⟩
    have hg5 := grown_below hb5; clear hb5
    have hs5 := hg5.size
    have HF5 := Lib.hid (HF4.out.still hg5); clear HF4
    have Q15 := Lib.hid (ISS.still Q14.out hg5 (by omega)); clear Q14
    have Q25 := Lib.hid (ISS.still Q24.out hg5 (by omega)); clear Q24
    have S5 := Lib.hid hrs; clear hrs
    obtain ⟨As, cs, rfl, hcs, hds⟩ := IntS.dims S5.out
    go_wp2_with fail
    refine (SubsetRank_impl m _ set _ _ _ S5.out (by omega) (by unfold I64; omega)).mono ?_
    rintro e W6 ⟨rfl, hb6⟩
    have hg6 := grown_below hb6; clear hb6
    have hs6 := hg6.size
    have HF6 := Lib.hid (HF5.out.still hg6); clear HF5
    have Q16 := Lib.hid (ISS.still Q15.out hg6 (by omega)); clear Q15
    have Q26 := Lib.hid (ISS.still Q25.out hg6 (by omega)); clear Q25
    have S6 := Lib.hid (IntS.still S5.out hg6 (by omega)); clear S5
    go_wp2_with fail
    refine (SubsetRank_spec m _ set _ _ _ S6.out (by omega) (by unfold I64; omega)).mono ?_
    rintro e W7 ⟨rfl, hb7⟩
    have hg7 := grown_below hb7; clear hb7
    have hs7 := hg7.size
    have HF7 := Lib.hid (HF6.out.still hg7); clear HF6
    have Q17 := Lib.hid (ISS.still Q16.out hg7 (by omega)); clear Q16
    have Q27 := Lib.hid (ISS.still Q26.out hg7 (by omega)); clear Q26
    have S7 := Lib.hid (IntS.still S6.out hg7 (by omega)); clear S6
    obtain ⟨one, HONE⟩ : ∃ b, Hid (rankOk m set = b) := ⟨_, Lib.hid rfl⟩
    obtain ⟨rv, HRV⟩ : ∃ x, Hid (rankV m set = x) := ⟨_, Lib.hid rfl⟩
    rw [HONE.out, HRV.out]
    have hn1 : (one != one) = false := by simp
    have hn2 : ((rv : Int) != (rv : Int)) = false := by simp
    cases one with
    | false =>
      go_wp2_with fail
      go_ret
      exact ⟨rfl, (HF7.out.below_of (Below.refl _ _) (by omega) (by omega))⟩
    | true =>
      obtain ⟨M, rfl⟩ : ∃ x : Nat, m = x := ⟨m.toNat, by omega⟩
      have HP : rankOk (M : Int) set = true := HONE.out
      have HP2 := HP
      unfold rankOk at HP2
      rw [Bool.and_eq_true] at HP2
      have hM := inB_le HP2.1
      have hasc := rising_asc (by omega) HP2.2
      rw [Int.toNat_natCast] at hasc
      obtain ⟨hr1, hr2⟩ := asc_rk hasc
      have hrv : rv = rk M 0 set := by have := HRV.out; unfold rankV at this; rw [if_pos HP, Int.toNat_natCast] at this; exact this.symm
      rw [← hrv] at hr1 hr2
      have hbok : binOk (M : Int) (set.length : Int) = true := by unfold binOk; rw [HP2.1, inB_true (by omega) (by have := asc_len hasc; omega)]; rfl
      have hbv : binV (M : Int) (set.length : Int) = ch M set.length := by rw [binV_yes hbok]; simp
      have HAT := Lib.hid (show atOk (M : Int) (set.length : Int) (rv : Int) = true by unfold atOk; rw [hbok, hbv, inB_true (by omega) (by omega)]; rfl)
      have HAV := Lib.hid (show atV (M : Int) (set.length : Int) (rv : Int) = set by unfold atV; rw [if_pos HAT.out]; simp only [Int.toNat_natCast]; exact hr2)
      clear HP HP2 hasc hr1 hr2 hrv hbok hbv hM
      obtain ⟨sl, HSL⟩ : ∃ x, Hid (set.length = x) := ⟨_, Lib.hid rfl⟩
      rw [HSL.out] at HAT HAV hcs
      rw [HSL.out]
      go_wp2_with fail
      refine (SubsetAt_any (M : Int) (sl : Int) (rv : Int) _).mono ?_
      rintro e W8 ⟨q9, rfl, hq9, hb8⟩
      have hg8 := grown_below hb8; clear hb8
      have hs8 := hg8.size
      have HF8 := Lib.hid (HF7.out.still hg8); clear HF7
      have Q18 := Lib.hid (ISS.still Q17.out hg8 (by omega)); clear Q17
      have Q28 := Lib.hid (ISS.still Q27.out hg8 (by omega)); clear Q27
      have S8 := Lib.hid (IntS.still S7.out hg8 (by omega)); clear S7
      have Q98 := Lib.hid hq9; clear hq9
      rw [HAT.out]
      rw [HAV.out] at Q98
      obtain ⟨A9, c9, rfl, hc9, hd9⟩ := IntS.dims Q98.out
      rw [HSL.out] at hc9
      rw [HSL.out]
      go_wp2_with fail
      refine (sameInts_same _ set _ _ _ set _ _ _ (by have := Q98.out; rw [HSL.out] at this; exact this) (by omega) (by have := S8.out; rw [HSL.out] at this; exact this) (by omega) rfl).mono ?_
      rintro e W9 ⟨rfl, hb9⟩
      have hg9 := grown_below hb9; clear hb9
      have hs9 := hg9.size
      have HF9 := Lib.hid (HF8.out.still hg9); clear HF8
      have Q19 := Lib.hid (ISS.still Q18.out hg9 (by omega)); clear Q18
      have Q29 := Lib.hid (ISS.still Q28.out hg9 (by omega)); clear Q28
      have S9 := Lib.hid (IntS.still S8.out hg9 (by omega)); clear S8
      have Q99 := Lib.hid (IntS.still Q98.out hg9 (by omega)); clear Q98
      go_wp2_with fail
      go_ret
      exact ⟨rfl, (HF9.out.below_of (Below.refl _ _) (by omega) (by omega))⟩
  | true =>
    have hbok : binOk n k = true := by have := HOK.out; unfold subsOk at this; rw [Bool.and_eq_true] at this; exact this.1
    obtain ⟨_, n60, _, k60⟩ := binOk_parts hbok
    have HBV := Lib.hid (binV_yes hbok)
    have HLB := Lib.hid (show ll = binV n k by rw [← HLL.out, ← HLS.out]; exact subsL_len HOK.out)
    have HBOK := Lib.hid hbok; clear hbok
    rw [HLL.out] at hcq hcp
    try rw [HLL.out]
    go_wp2_with fail
    refine (Binomial_any n k _).mono ?_
    rintro e W10 ⟨rfl, hb10⟩
    have hg10 := grown_below hb10; clear hb10
    have hs10 := hg10.size
    have HF10 := Lib.hid (HF4.out.still hg10); clear HF4
    have Q110 := Lib.hid (ISS.still Q14.out hg10 (by omega)); clear Q14
    have Q210 := Lib.hid (ISS.still Q24.out hg10 (by omega)); clear Q24
    rw [HBOK.out, ← HLB.out]
    have hnl : ((ll : Int) != (ll : Int)) = false := by simp
    by_cases hkn : k ≤ n
    case neg =>
      have h0 : ll = 0 := by rw [HLB.out, HBV.out]; exact ch_over (by omega)
      have hkd : decide (k ≤ n) = false := decide_eq_false hkn
      have hl0 : ¬ (0 : Int) < (ll : Int) := by omega
      go_wp2_with fail
      refine (DrawSubsetRank_any _ more lo2 hi2 _ (ByS.turned F2.out HF10.out (by omega) (by omega)) (by omega) HB2.out (by omega)).mono ?_
      rintro e W11 ⟨m, rs, set, rfl, m0, m1, hsl, hsm, hrs, hb11⟩
      have hg11 := grown_below hb11; clear hb11
      have hs11 := hg11.size
      have HF11 := Lib.hid (HF10.out.still hg11); clear HF10
      have Q111 := Lib.hid (ISS.still Q110.out hg11 (by omega)); clear Q110
      have Q211 := Lib.hid (ISS.still Q210.out hg11 (by omega)); clear Q210
      have S11 := Lib.hid hrs; clear hrs
      obtain ⟨As, cs, rfl, hcs, hds⟩ := IntS.dims S11.out
      go_wp2_with fail
      refine (SubsetRank_impl m _ set _ _ _ S11.out (by omega) (by unfold I64; omega)).mono ?_
      rintro e W12 ⟨rfl, hb12⟩
      have hg12 := grown_below hb12; clear hb12
      have hs12 := hg12.size
      have HF12 := Lib.hid (HF11.out.still hg12); clear HF11
      have Q112 := Lib.hid (ISS.still Q111.out hg12 (by omega)); clear Q111
      have Q212 := Lib.hid (ISS.still Q211.out hg12 (by omega)); clear Q211
      have S12 := Lib.hid (IntS.still S11.out hg12 (by omega)); clear S11
      go_wp2_with fail
      refine (SubsetRank_spec m _ set _ _ _ S12.out (by omega) (by unfold I64; omega)).mono ?_
      rintro e W13 ⟨rfl, hb13⟩
      have hg13 := grown_below hb13; clear hb13
      have hs13 := hg13.size
      have HF13 := Lib.hid (HF12.out.still hg13); clear HF12
      have Q113 := Lib.hid (ISS.still Q112.out hg13 (by omega)); clear Q112
      have Q213 := Lib.hid (ISS.still Q212.out hg13 (by omega)); clear Q212
      have S13 := Lib.hid (IntS.still S12.out hg13 (by omega)); clear S12
      obtain ⟨one, HONE⟩ : ∃ b, Hid (rankOk m set = b) := ⟨_, Lib.hid rfl⟩
      obtain ⟨rv, HRV⟩ : ∃ x, Hid (rankV m set = x) := ⟨_, Lib.hid rfl⟩
      rw [HONE.out, HRV.out]
      have hn1 : (one != one) = false := by simp
      have hn2 : ((rv : Int) != (rv : Int)) = false := by simp
      cases one with
      | false =>
        go_wp2_with fail
        go_ret
        exact ⟨rfl, (HF13.out.below_of (Below.refl _ _) (by omega) (by omega))⟩
      | true =>
        obtain ⟨M, rfl⟩ : ∃ x : Nat, m = x := ⟨m.toNat, by omega⟩
        have HP : rankOk (M : Int) set = true := HONE.out
        have HP2 := HP
        unfold rankOk at HP2
        rw [Bool.and_eq_true] at HP2
        have hM := inB_le HP2.1
        have hasc := rising_asc (by omega) HP2.2
        rw [Int.toNat_natCast] at hasc
        obtain ⟨hr1, hr2⟩ := asc_rk hasc
        have hrv : rv = rk M 0 set := by have := HRV.out; unfold rankV at this; rw [if_pos HP, Int.toNat_natCast] at this; exact this.symm
        rw [← hrv] at hr1 hr2
        have hbok : binOk (M : Int) (set.length : Int) = true := by unfold binOk; rw [HP2.1, inB_true (by omega) (by have := asc_len hasc; omega)]; rfl
        have hbv : binV (M : Int) (set.length : Int) = ch M set.length := by rw [binV_yes hbok]; simp
        have HAT := Lib.hid (show atOk (M : Int) (set.length : Int) (rv : Int) = true by unfold atOk; rw [hbok, hbv, inB_true (by omega) (by omega)]; rfl)
        have HAV := Lib.hid (show atV (M : Int) (set.length : Int) (rv : Int) = set by unfold atV; rw [if_pos HAT.out]; simp only [Int.toNat_natCast]; exact hr2)
        clear HP HP2 hasc hr1 hr2 hrv hbok hbv hM
        obtain ⟨sl, HSL⟩ : ∃ x, Hid (set.length = x) := ⟨_, Lib.hid rfl⟩
        rw [HSL.out] at HAT HAV hcs
        rw [HSL.out]
        go_wp2_with fail
        refine (SubsetAt_any (M : Int) (sl : Int) (rv : Int) _).mono ?_
        rintro e W14 ⟨q9, rfl, hq9, hb14⟩
        have hg14 := grown_below hb14; clear hb14
        have hs14 := hg14.size
        have HF14 := Lib.hid (HF13.out.still hg14); clear HF13
        have Q114 := Lib.hid (ISS.still Q113.out hg14 (by omega)); clear Q113
        have Q214 := Lib.hid (ISS.still Q213.out hg14 (by omega)); clear Q213
        have S14 := Lib.hid (IntS.still S13.out hg14 (by omega)); clear S13
        have Q914 := Lib.hid hq9; clear hq9
        rw [HAT.out]
        rw [HAV.out] at Q914
        obtain ⟨A9, c9, rfl, hc9, hd9⟩ := IntS.dims Q914.out
        rw [HSL.out] at hc9
        rw [HSL.out]
        go_wp2_with fail
        refine (sameInts_same _ set _ _ _ set _ _ _ (by have := Q914.out; rw [HSL.out] at this; exact this) (by omega) (by have := S14.out; rw [HSL.out] at this; exact this) (by omega) rfl).mono ?_
        rintro e W15 ⟨rfl, hb15⟩
        have hg15 := grown_below hb15; clear hb15
        have hs15 := hg15.size
        have HF15 := Lib.hid (HF14.out.still hg15); clear HF14
        have Q115 := Lib.hid (ISS.still Q114.out hg15 (by omega)); clear Q114
        have Q215 := Lib.hid (ISS.still Q214.out hg15 (by omega)); clear Q214
        have S15 := Lib.hid (IntS.still S14.out hg15 (by omega)); clear S14
        have Q915 := Lib.hid (IntS.still Q914.out hg15 (by omega)); clear Q914
        go_wp2_with fail
        go_ret
        exact ⟨rfl, (HF15.out.below_of (Below.refl _ _) (by omega) (by omega))⟩
    have hpos : 0 < ll := by rw [HLB.out, HBV.out]; exact ch_pos (by omega)
    have hkd : decide (k ≤ n) = true := decide_eq_true hkn
    have hnk : IntKind.i64.wrap (n - k) = n - k := IntWalk.i64_in _ (by omega)
    have HB3 := Lib.hid (show binOk n (n - k) = true by unfold binOk; rw [inB_true (by omega) (by omega), inB_true (by omega) (by omega)]; rfl)
    have HV3 := Lib.hid (show binV n (n - k) = ll by rw [binV_yes HB3.out, HLB.out, HBV.out, show (n - k).toNat = n.toNat - k.toNat by omega]; exact ch_symm (by omega))
    go_wp2_with fail
    refine (Binomial_any n (n - k) _).mono ?_
    rintro e W16 ⟨rfl, hb16⟩
    have hg16 := grown_below hb16; clear hb16
    have hs16 := hg16.size
    have HF16 := Lib.hid (HF10.out.still hg16); clear HF10
    have Q116 := Lib.hid (ISS.still Q110.out hg16 (by omega)); clear Q110
    have Q216 := Lib.hid (ISS.still Q210.out hg16 (by omega)); clear Q210
    rw [HB3.out, HV3.out]
    have hl0 : (0 : Int) < (ll : Int) := by omega
    have hle : ((ll : Int) == 0) = false := by simp; omega
    have hle2 : ¬ (ll : Int) = 0 := by omega
    go_wp2_with fail
    refine (numberOf_any _ more lo2 hi2 _ (ByS.turned F2.out HF16.out (by omega) (by omega)) (by omega) HB2.out (by omega)).mono ?_
    rintro e W17 ⟨x, rfl, hx, hb17⟩
    have hg17 := grown_below hb17; clear hb17
    have hs17 := hg17.size
    have HF17 := Lib.hid (HF16.out.still hg17); clear HF16
    have Q117 := Lib.hid (ISS.still Q116.out hg17 (by omega)); clear Q116
    have Q217 := Lib.hid (ISS.still Q216.out hg17 (by omega)); clear Q216
    have htm := tmodN x ll
    have hrl : x % ll < ll := Nat.mod_lt _ hpos
    obtain ⟨r, HR⟩ : ∃ z, Hid (x % ll = z) := ⟨_, Lib.hid rfl⟩
    rw [HR.out] at htm hrl
    have HAT := Lib.hid (show atOk n k (r : Int) = true by unfold atOk; rw [HBOK.out, ← HLB.out, inB_true (by omega) (by omega)]; rfl)
    have HAV := Lib.hid (show atV n k (r : Int) = nthL ls r by
      rw [← HLS.out, subsL_at HOK.out (by rw [← HLB.out]; exact hrl)]
      unfold atV; rw [if_pos HAT.out, Int.toNat_natCast])
    have hsn : nthL ls r = subN n.toNat 0 k.toNat r := by rw [← HLS.out]; exact subsL_at HOK.out (by rw [← HLB.out]; exact hrl)
    have hrch : r < ch n.toNat k.toNat := by rw [← HBV.out, ← HLB.out]; exact hrl
    have HRO := Lib.hid (show rankOk n (nthL ls r) = true by
      unfold rankOk
      rw [inB_true n0 n60, hsn]
      have := asc_rising (n := n.toNat) (sub_asc (k := k.toNat) (r := r))
      rw [show ((n.toNat : Nat) : Int) = n by omega] at this
      rw [this]; rfl)
    have HRR := Lib.hid (show rankV n (nthL ls r) = r by unfold rankV; rw [if_pos HRO.out, hsn]; exact rk_sub hrch)
    clear hsn hrch
    go_wp2_with fail
    refine (SubsetAt_any n k (r : Int) _).mono ?_
    rintro e W18 ⟨q3, rfl, hq3, hb18⟩
    have hg18 := grown_below hb18; clear hb18
    have hs18 := hg18.size
    have HF18 := Lib.hid (HF17.out.still hg18); clear HF17
    have Q118 := Lib.hid (ISS.still Q117.out hg18 (by omega)); clear Q117
    have Q218 := Lib.hid (ISS.still Q217.out hg18 (by omega)); clear Q217
    have Q318 := Lib.hid hq3; clear hq3
    rw [HAT.out]
    rw [HAV.out] at Q318
    obtain ⟨A3, c3, rfl, hc3, hd3⟩ := IntS.dims Q318.out
    go_wp2_with fail
    refine (SubsetRank_impl n _ (nthL ls r) _ _ _ Q318.out (by omega) (by unfold I64; omega)).mono ?_
    rintro e W19 ⟨rfl, hb19⟩
    have hg19 := grown_below hb19; clear hb19
    have hs19 := hg19.size
    have HF19 := Lib.hid (HF18.out.still hg19); clear HF18
    have Q119 := Lib.hid (ISS.still Q118.out hg19 (by omega)); clear Q118
    have Q219 := Lib.hid (ISS.still Q218.out hg19 (by omega)); clear Q218
    have Q319 := Lib.hid (IntS.still Q318.out hg19 (by omega)); clear Q318
    rw [HRO.out, HRR.out]
    have hq1 := Q119.out
    obtain ⟨b1, o1, u1, rfl, _, hbb, zq, hu⟩ := SS.opened hq1 (j := r) (by rw [HLL.out]; exact hrl)
    obtain ⟨A4, c4, rfl, hc4, hd4⟩ := hu.dims
    have HU := Lib.hid hu; clear hu hq1
    have hri : (r : Int) < ll := by omega
    have hnr : ((r : Int) != (r : Int)) = false := by simp
    obtain ⟨ys, HYS⟩ : ∃ y, Hid (nthL ls r = y) := ⟨_, Lib.hid rfl⟩
    rw [HYS.out] at zq hc4 HU hc3 Q319
    try rw [HYS.out]
    go_wp2_with fail
    refine (sameInts_same _ ys _ _ _ ys _ _ _ Q319.out (by omega) HU.out (by omega) rfl).mono ?_
    rintro e W20 ⟨rfl, hb20⟩
    have hg20 := grown_below hb20; clear hb20 HU zq
    have hs20 := hg20.size
    have HF20 := Lib.hid (HF19.out.still hg20); clear HF19
    have Q120 := Lib.hid (ISS.still Q119.out hg20 (by omega)); clear Q119
    have Q220 := Lib.hid (ISS.still Q219.out hg20 (by omega)); clear Q219
    have Q320 := Lib.hid (IntS.still Q319.out hg20 (by omega)); clear Q319
    go_wp2_with fail
    refine (DrawSubsetRank_any _ more lo2 hi2 _ (ByS.turned F2.out HF20.out (by omega) (by omega)) (by omega) HB2.out (by omega)).mono ?_
    rintro e W21 ⟨m, rs, set, rfl, m0, m1, hsl, hsm, hrs, hb21⟩
    have hg21 := grown_below hb21; clear hb21
    have hs21 := hg21.size
    have HF21 := Lib.hid (HF20.out.still hg21); clear HF20
    have Q121 := Lib.hid (ISS.still Q120.out hg21 (by omega)); clear Q120
    have Q221 := Lib.hid (ISS.still Q220.out hg21 (by omega)); clear Q220
    have Q321 := Lib.hid (IntS.still Q320.out hg21 (by omega)); clear Q320
    have S21 := Lib.hid hrs; clear hrs
    obtain ⟨As, cs, rfl, hcs, hds⟩ := IntS.dims S21.out
    go_wp2_with fail
    refine (SubsetRank_impl m _ set _ _ _ S21.out (by omega) (by unfold I64; omega)).mono ?_
    rintro e W22 ⟨rfl, hb22⟩
    have hg22 := grown_below hb22; clear hb22
    have hs22 := hg22.size
    have HF22 := Lib.hid (HF21.out.still hg22); clear HF21
    have Q122 := Lib.hid (ISS.still Q121.out hg22 (by omega)); clear Q121
    have Q222 := Lib.hid (ISS.still Q221.out hg22 (by omega)); clear Q221
    have Q322 := Lib.hid (IntS.still Q321.out hg22 (by omega)); clear Q321
    have S22 := Lib.hid (IntS.still S21.out hg22 (by omega)); clear S21
    go_wp2_with fail
    refine (SubsetRank_spec m _ set _ _ _ S22.out (by omega) (by unfold I64; omega)).mono ?_
    rintro e W23 ⟨rfl, hb23⟩
    have hg23 := grown_below hb23; clear hb23
    have hs23 := hg23.size
    have HF23 := Lib.hid (HF22.out.still hg23); clear HF22
    have Q123 := Lib.hid (ISS.still Q122.out hg23 (by omega)); clear Q122
    have Q223 := Lib.hid (ISS.still Q222.out hg23 (by omega)); clear Q222
    have Q323 := Lib.hid (IntS.still Q322.out hg23 (by omega)); clear Q322
    have S23 := Lib.hid (IntS.still S22.out hg23 (by omega)); clear S22
    obtain ⟨one, HONE⟩ : ∃ b, Hid (rankOk m set = b) := ⟨_, Lib.hid rfl⟩
    obtain ⟨rv, HRV⟩ : ∃ x, Hid (rankV m set = x) := ⟨_, Lib.hid rfl⟩
    rw [HONE.out, HRV.out]
    have hn1 : (one != one) = false := by simp
    have hn2 : ((rv : Int) != (rv : Int)) = false := by simp
    cases one with
    | false =>
      go_wp2_with fail
      go_ret
      exact ⟨rfl, (HF23.out.below_of (Below.refl _ _) (by omega) (by omega))⟩
    | true =>
      obtain ⟨M, rfl⟩ : ∃ x : Nat, m = x := ⟨m.toNat, by omega⟩
      have HP : rankOk (M : Int) set = true := HONE.out
      have HP2 := HP
      unfold rankOk at HP2
      rw [Bool.and_eq_true] at HP2
      have hM := inB_le HP2.1
      have hasc := rising_asc (by omega) HP2.2
      rw [Int.toNat_natCast] at hasc
      obtain ⟨hr1, hr2⟩ := asc_rk hasc
      have hrv : rv = rk M 0 set := by have := HRV.out; unfold rankV at this; rw [if_pos HP, Int.toNat_natCast] at this; exact this.symm
      rw [← hrv] at hr1 hr2
      have hbok : binOk (M : Int) (set.length : Int) = true := by unfold binOk; rw [HP2.1, inB_true (by omega) (by have := asc_len hasc; omega)]; rfl
      have hbv : binV (M : Int) (set.length : Int) = ch M set.length := by rw [binV_yes hbok]; simp
      have HAT := Lib.hid (show atOk (M : Int) (set.length : Int) (rv : Int) = true by unfold atOk; rw [hbok, hbv, inB_true (by omega) (by omega)]; rfl)
      have HAV := Lib.hid (show atV (M : Int) (set.length : Int) (rv : Int) = set by unfold atV; rw [if_pos HAT.out]; simp only [Int.toNat_natCast]; exact hr2)
      clear HP HP2 hasc hr1 hr2 hrv hbok hbv hM
      obtain ⟨sl, HSL⟩ : ∃ x, Hid (set.length = x) := ⟨_, Lib.hid rfl⟩
      rw [HSL.out] at HAT HAV hcs
      rw [HSL.out]
      go_wp2_with fail
      refine (SubsetAt_any (M : Int) (sl : Int) (rv : Int) _).mono ?_
      rintro e W24 ⟨q9, rfl, hq9, hb24⟩
      have hg24 := grown_below hb24; clear hb24
      have hs24 := hg24.size
      have HF24 := Lib.hid (HF23.out.still hg24); clear HF23
      have Q124 := Lib.hid (ISS.still Q123.out hg24 (by omega)); clear Q123
      have Q224 := Lib.hid (ISS.still Q223.out hg24 (by omega)); clear Q223
      have Q324 := Lib.hid (IntS.still Q323.out hg24 (by omega)); clear Q323
      have S24 := Lib.hid (IntS.still S23.out hg24 (by omega)); clear S23
      have Q924 := Lib.hid hq9; clear hq9
      rw [HAT.out]
      rw [HAV.out] at Q924
      obtain ⟨A9, c9, rfl, hc9, hd9⟩ := IntS.dims Q924.out
      rw [HSL.out] at hc9
      rw [HSL.out]
      go_wp2_with fail
      refine (sameInts_same _ set _ _ _ set _ _ _ (by have := Q924.out; rw [HSL.out] at this; exact this) (by omega) (by have := S24.out; rw [HSL.out] at this; exact this) (by omega) rfl).mono ?_
      rintro e W25 ⟨rfl, hb25⟩
      have hg25 := grown_below hb25; clear hb25
      have hs25 := hg25.size
      have HF25 := Lib.hid (HF24.out.still hg25); clear HF24
      have Q125 := Lib.hid (ISS.still Q124.out hg25 (by omega)); clear Q124
      have Q225 := Lib.hid (ISS.still Q224.out hg25 (by omega)); clear Q224
      have Q325 := Lib.hid (IntS.still Q324.out hg25 (by omega)); clear Q324
      have S25 := Lib.hid (IntS.still S24.out hg25 (by omega)); clear S24
      have Q925 := Lib.hid (IntS.still Q924.out hg25 (by omega)); clear Q924
      go_wp2_with fail
      go_ret
      exact ⟨rfl, (HF25.out.below_of (Below.refl _ _) (by omega) (by omega))⟩

end Go.Proofs.Ytlignkgfclenkaa
