/-
  The walk of the law on cycles: it returns true.
-/
import Derived.Test.YtbfjhehhpgcelaaCvG
namespace Go.Proofs.Ytbfjhehhpgcelaa
open Go.ChangeShapes Go.WideShapes Go.ChangeAt Go.RowKit
set_option linter.unusedVariables false

set_option maxHeartbeats 40000000 in
set_option maxRecDepth 100000 in
theorem FnCycleLabelings_walk (v1 : Value) (code : List Int) (lo1 hi1 : Nat) (v2 : Value) (more : List Int) (lo2 hi2 : Nat) (w : World) (h1 : ByS w lo1 hi1 v1 code) (hh1 : hi1 ≤ w.heap.size) (h2 : ByS w lo2 hi2 v2 more) (hh2 : hi2 ≤ w.heap.size) (hb1 : Bytes code) (hb2 : Bytes more) :
    Calls Try.prog 3 #[v1, v2] w fun e w' => e = .returned (.bool true) ∧ Below w.heap.size w w' := by
  have HB1 := Lib.hid hb1; clear hb1
  have HB2 := Lib.hid hb2; clear hb2
  have F1 := Lib.hid h1
  obtain ⟨A1, c1, rfl, hc1, hd1⟩ := h1.dims
  clear h1
  have F2 := Lib.hid h2
  obtain ⟨A2, c2, rfl, hc2, hd2⟩ := h2.dims
  clear h2
  go_enter Try.func3, Try.ntmps3
  go_wp2_with fail
  refine (big_any _ code lo1 hi1 _ more lo2 hi2 _ F1.out (by omega) F2.out (by omega)).mono ?_
  rintro e w' ⟨rfl, rfl⟩
  by_cases hsz : code.length + more.length ≤ 1048576
  case neg =>
    have HZ := Lib.hid (show (!decide (code.length + more.length ≤ 1048576)) = true by simp; omega)
    rw [HZ.out]
    go_wp2_with fail
    go_ret
    exact ⟨rfl, (Below.refl _ _)⟩
  have HZ := Lib.hid (show (!decide (code.length + more.length ≤ 1048576)) = false by simp; omega)
  rw [HZ.out]
  go_wp2_with fail
  refine (DrawFirst_any _ code lo1 hi1 _ F1.out (by omega) HB1.out (by omega)).mono ?_
  rintro e W1 ⟨L, r1, P, k, rfl, L1, L13, k1, k61, hss1, hb1⟩
  have hg1 := grown_below hb1; clear hb1
  have hs1 := hg1.size
  have HF1 := Lib.hid ((Turned.refl w.heap.size w.heap.size w).still hg1)
  have S1 := Lib.hid hss1; clear hss1
  obtain ⟨As, cs, rfl, hcs, hds⟩ := SS.dims S1.out
  go_upto_region 4 with (fail)
  refine nameC ?_
  intro W2 HW2
  have hg2 : W1.grownBy W2 none := by rw [HW2.out]; exact grown_alloc _ _
  have hs2 := hg2.size
  have HF2 := Lib.hid (HF1.out.still hg2); clear HF1
  have S2 := Lib.hid (ISS.still S1.out hg2 (by omega)); clear S1
  have X2 := Lib.hid (show BoxN W2 W1.heap.size #[.int .i64 L, (.slice As P.length cs)] 26 by rw [HW2.out]; first | exact BoxN.new _ _ _ | exact ((BoxN.new _ _ _).set 0 _).set 1 _)
  clear HW2
  have kx3_0 : W2.cell? ⟨W1.heap.size, 0, none⟩ = some (.int .i64 L) := X2.out.cell 0 (by simp)
  have kx3_1 : W2.cell? ⟨W1.heap.size, 1, none⟩ = some ((.slice As P.length cs)) := X2.out.cell 1 (by simp)
  go_wp2_with fail
  clear kx3_0 kx3_1
  refine (FirstCycleLabeling_impl L _ P _ _ k _ S2.out (by omega)).mono ?_
  rintro e W4 ⟨q1, rfl, hq1, hb4⟩
  have hg4 := grown_below hb4; clear hb4
  have hs4 := hg4.size
  have HF4 := Lib.hid (HF2.out.still hg4); clear HF2
  have S4 := Lib.hid (ISS.still S2.out hg4 (by omega)); clear S2
  have X4 := Lib.hid (BoxN.still X2.out hg4); clear X2
  have Q14 := Lib.hid hq1; clear hq1
  obtain ⟨A4, c4, rfl, hc4, hd4⟩ := IntS.dims Q14.out
  have kx5_0 : W4.cell? ⟨W1.heap.size, 0, none⟩ = some (.int .i64 L) := X4.out.cell 0 (by simp)
  have kx5_1 : W4.cell? ⟨W1.heap.size, 1, none⟩ = some ((.slice As P.length cs)) := X4.out.cell 1 (by simp)
  go_wp2_with fail
  clear kx5_0 kx5_1
  refine (FirstCycleLabeling_spec L _ P _ _ k _ S4.out (by omega)).mono ?_
  rintro e W6 ⟨q2, rfl, hq2, hb6⟩
  have hg6 := grown_below hb6; clear hb6
  have hs6 := hg6.size
  have HF6 := Lib.hid (HF4.out.still hg6); clear HF4
  have S6 := Lib.hid (ISS.still S4.out hg6 (by omega)); clear S4
  have X6 := Lib.hid (BoxN.still X4.out hg6); clear X4
  have Q16 := Lib.hid (IntS.still Q14.out hg6 (by omega)); clear Q14
  have Q26 := Lib.hid hq2; clear hq2
  obtain ⟨A5, c5, rfl, hc5, hd5⟩ := IntS.dims Q26.out
  obtain ⟨ok, HOK⟩ : ∃ b, Hid (fcOk L P k = b) := ⟨_, Lib.hid rfl⟩
  obtain ⟨xs, HXS⟩ : ∃ x, Hid (fcL L P k = x) := ⟨_, Lib.hid rfl⟩
  rw [HOK.out]
  rw [HXS.out] at Q16 Q26 hc4 hc5
  rw [HXS.out]
  obtain ⟨xl, HXL⟩ : ∃ x, Hid (xs.length = x) := ⟨_, Lib.hid rfl⟩
  obtain ⟨one, HONE⟩ : ∃ b, Hid (ccOk L P k = b) := ⟨_, Lib.hid rfl⟩
  obtain ⟨cv, HCV⟩ : ∃ b, Hid (ccV L P k = b) := ⟨_, Lib.hid rfl⟩
  have hnb : (ok != ok) = false := by simp
  have kx7_0 : W6.cell? ⟨W1.heap.size, 0, none⟩ = some (.int .i64 L) := X6.out.cell 0 (by simp)
  have kx7_1 : W6.cell? ⟨W1.heap.size, 1, none⟩ = some ((.slice As P.length cs)) := X6.out.cell 1 (by simp)
  go_wp2_with fail
  clear kx7_0 kx7_1
  refine (CountCycle_impl L _ P _ _ k _ S6.out (by omega)).mono ?_
  rintro e W8 ⟨rfl, hb8⟩
  have hg8 := grown_below hb8; clear hb8
  have hs8 := hg8.size
  have HF8 := Lib.hid (HF6.out.still hg8); clear HF6
  have S8 := Lib.hid (ISS.still S6.out hg8 (by omega)); clear S6
  have X8 := Lib.hid (BoxN.still X6.out hg8); clear X6
  have Q18 := Lib.hid (IntS.still Q16.out hg8 (by omega)); clear Q16
  have Q28 := Lib.hid (IntS.still Q26.out hg8 (by omega)); clear Q26
  rw [HONE.out, HCV.out]
  have kx9_0 : W8.cell? ⟨W1.heap.size, 0, none⟩ = some (.int .i64 L) := X8.out.cell 0 (by simp)
  have kx9_1 : W8.cell? ⟨W1.heap.size, 1, none⟩ = some ((.slice As P.length cs)) := X8.out.cell 1 (by simp)
  go_wp2_with fail
  clear kx9_0 kx9_1
  refine (CountCycle_spec L _ P _ _ k _ S8.out (by omega)).mono ?_
  rintro e W10 ⟨rfl, hb10⟩
  have hg10 := grown_below hb10; clear hb10
  have hs10 := hg10.size
  have HF10 := Lib.hid (HF8.out.still hg10); clear HF8
  have S10 := Lib.hid (ISS.still S8.out hg10 (by omega)); clear S8
  have X10 := Lib.hid (BoxN.still X8.out hg10); clear X8
  have Q110 := Lib.hid (IntS.still Q18.out hg10 (by omega)); clear Q18
  have Q210 := Lib.hid (IntS.still Q28.out hg10 (by omega)); clear Q28
  rw [HONE.out, HCV.out]
  have hnc : (one != one) = false := by simp
  have hnd : (cv != cv) = false := by simp
  go_wp2_with fail
  refine (sameInts_same _ xs _ _ _ xs _ _ _ Q110.out (by omega) Q210.out (by omega) rfl).mono ?_
  rintro e W11 ⟨rfl, hb11⟩
  have hg11 := grown_below hb11; clear hb11
  have hs11 := hg11.size
  have HF11 := Lib.hid (HF10.out.still hg11); clear HF10
  have S11 := Lib.hid (ISS.still S10.out hg11 (by omega)); clear S10
  have X11 := Lib.hid (BoxN.still X10.out hg11); clear X10
  have Q111 := Lib.hid (IntS.still Q110.out hg11 (by omega)); clear Q110
  have Q211 := Lib.hid (IntS.still Q210.out hg11 (by omega)); clear Q210
  cases ok with
  | false =>
    cases one with
    | false =>
      as_aux_lemma =>
        go_wp2_with fail
        refine (DrawBetween_any _ more lo2 hi2 _ (ByS.turned F2.out HF11.out (by omega) (by omega)) (by omega) HB2.out (by omega)).mono ?_
        rintro e W12 ⟨M, r2, R, a, b, r, rfl, M1, M13, a1, a13, b1, b14, r1, r200, hss2, hb12⟩
        have hg12 := grown_below hb12; clear hb12
        have hs12 := hg12.size
        have HF12 := Lib.hid (HF11.out.still hg12); clear HF11
        have S12 := Lib.hid (ISS.still S11.out hg12 (by omega)); clear S11
        have X12 := Lib.hid (BoxN.still X11.out hg12); clear X11
        have Q112 := Lib.hid (IntS.still Q111.out hg12 (by omega)); clear Q111
        have Q212 := Lib.hid (IntS.still Q211.out hg12 (by omega)); clear Q211
        have SR12 := Lib.hid hss2; clear hss2
        obtain ⟨Ar, cr, rfl, hcr, hdr⟩ := SS.dims SR12.out
        go_upto_region 18 with (fail)
        refine nameC ?_
        intro W13 HW13
        have hg13 : W12.grownBy W13 none := by rw [HW13.out]; exact grown_alloc _ _
        have hs13 := hg13.size
        have HF13 := Lib.hid (HF12.out.still hg13); clear HF12
        have S13 := Lib.hid (ISS.still S12.out hg13 (by omega)); clear S12
        have X13 := Lib.hid (BoxN.still X12.out hg13); clear X12
        have Q113 := Lib.hid (IntS.still Q112.out hg13 (by omega)); clear Q112
        have Q213 := Lib.hid (IntS.still Q212.out hg13 (by omega)); clear Q212
        have SR13 := Lib.hid (ISS.still SR12.out hg13 (by omega)); clear SR12
        have Y13 := Lib.hid (show BoxN W13 W12.heap.size #[.int .i64 M, (.slice Ar R.length cr)] 26 by rw [HW13.out]; first | exact BoxN.new _ _ _ | exact ((BoxN.new _ _ _).set 0 _).set 1 _)
        clear HW13
        have kx14_0 : W13.cell? ⟨W12.heap.size, 0, none⟩ = some (.int .i64 M) := Y13.out.cell 0 (by simp)
        have kx14_1 : W13.cell? ⟨W12.heap.size, 1, none⟩ = some ((.slice Ar R.length cr)) := Y13.out.cell 1 (by simp)
        go_wp2_with fail
        clear kx14_0 kx14_1
        refine (WalkBetween_impl M _ R _ _ a b r _ SR13.out (by omega) (by omega) (by omega)).mono ?_
        rintro e W15 ⟨q3, rfl, hq3, hb15⟩
        have hg15 := grown_below hb15; clear hb15
        have hs15 := hg15.size
        have HF15 := Lib.hid (HF13.out.still hg15); clear HF13
        have S15 := Lib.hid (ISS.still S13.out hg15 (by omega)); clear S13
        have X15 := Lib.hid (BoxN.still X13.out hg15); clear X13
        have Q115 := Lib.hid (IntS.still Q113.out hg15 (by omega)); clear Q113
        have Q215 := Lib.hid (IntS.still Q213.out hg15 (by omega)); clear Q213
        have SR15 := Lib.hid (ISS.still SR13.out hg15 (by omega)); clear SR13
        have Y15 := Lib.hid (BoxN.still Y13.out hg15); clear Y13
        have Q315 := Lib.hid hq3; clear hq3
        obtain ⟨A6, c6, rfl, hc6, hd6⟩ := IntS.dims Q315.out
        have kx16_0 : W15.cell? ⟨W12.heap.size, 0, none⟩ = some (.int .i64 M) := Y15.out.cell 0 (by simp)
        have kx16_1 : W15.cell? ⟨W12.heap.size, 1, none⟩ = some ((.slice Ar R.length cr)) := Y15.out.cell 1 (by simp)
        go_wp2_with fail
        clear kx16_0 kx16_1
        refine (WalkBetween_spec M _ R _ _ a b r _ SR15.out (by omega) (by omega) (by omega)).mono ?_
        rintro e W17 ⟨q4, rfl, hq4, hb17⟩
        have hg17 := grown_below hb17; clear hb17
        have hs17 := hg17.size
        have HF17 := Lib.hid (HF15.out.still hg17); clear HF15
        have S17 := Lib.hid (ISS.still S15.out hg17 (by omega)); clear S15
        have X17 := Lib.hid (BoxN.still X15.out hg17); clear X15
        have Q117 := Lib.hid (IntS.still Q115.out hg17 (by omega)); clear Q115
        have Q217 := Lib.hid (IntS.still Q215.out hg17 (by omega)); clear Q215
        have SR17 := Lib.hid (ISS.still SR15.out hg17 (by omega)); clear SR15
        have Y17 := Lib.hid (BoxN.still Y15.out hg17); clear Y15
        have Q317 := Lib.hid (IntS.still Q315.out hg17 (by omega)); clear Q315
        have Q417 := Lib.hid hq4; clear hq4
        obtain ⟨A7, c7, rfl, hc7, hd7⟩ := IntS.dims Q417.out
        obtain ⟨three, HTH⟩ : ∃ z, Hid (wbOk M R a b r = z) := ⟨_, Lib.hid rfl⟩
        obtain ⟨ws, HWS⟩ : ∃ z, Hid (wbOut M R a b r = z) := ⟨_, Lib.hid rfl⟩
        rw [HTH.out]
        rw [HWS.out] at Q317 Q417 hc6 hc7
        rw [HWS.out]
        obtain ⟨wl, HWL⟩ : ∃ x, Hid (ws.length = x) := ⟨_, Lib.hid rfl⟩
        have hne : (three != three) = false := by simp
        go_wp2_with fail
        refine (sameInts_same _ ws _ _ _ ws _ _ _ Q317.out (by omega) Q417.out (by omega) rfl).mono ?_
        rintro e W18 ⟨rfl, hb18⟩
        have hg18 := grown_below hb18; clear hb18
        have hs18 := hg18.size
        have HF18 := Lib.hid (HF17.out.still hg18); clear HF17
        have S18 := Lib.hid (ISS.still S17.out hg18 (by omega)); clear S17
        have X18 := Lib.hid (BoxN.still X17.out hg18); clear X17
        have Q118 := Lib.hid (IntS.still Q117.out hg18 (by omega)); clear Q117
        have Q218 := Lib.hid (IntS.still Q217.out hg18 (by omega)); clear Q217
        have SR18 := Lib.hid (ISS.still SR17.out hg18 (by omega)); clear SR17
        have Y18 := Lib.hid (BoxN.still Y17.out hg18); clear Y17
        have Q318 := Lib.hid (IntS.still Q317.out hg18 (by omega)); clear Q317
        have Q418 := Lib.hid (IntS.still Q417.out hg18 (by omega)); clear Q417
        cases three with
        | false =>
          as_aux_lemma =>
            by_cases hr1 : 1 ≤ r
            case neg =>
              go_wp2_with fail
              go_ret
              exact ⟨rfl, (HF18.out.below_of (Below.refl _ _) (by omega) (by omega))⟩
            have kx19_0 : W18.cell? ⟨W12.heap.size, 0, none⟩ = some (.int .i64 M) := Y18.out.cell 0 (by simp)
            have kx19_1 : W18.cell? ⟨W12.heap.size, 1, none⟩ = some ((.slice Ar R.length cr)) := Y18.out.cell 1 (by simp)
            go_wp2_with fail
            clear kx19_0 kx19_1
            refine (IsWalkProblem_any M _ R _ _ _ SR18.out (by omega)).mono ?_
            rintro e W20 ⟨rfl, hb20⟩
            have hg20 := grown_below hb20; clear hb20
            have hs20 := hg20.size
            have HF20 := Lib.hid (HF18.out.still hg20); clear HF18
            have S20 := Lib.hid (ISS.still S18.out hg20 (by omega)); clear S18
            have X20 := Lib.hid (BoxN.still X18.out hg20); clear X18
            have Q120 := Lib.hid (IntS.still Q118.out hg20 (by omega)); clear Q118
            have Q220 := Lib.hid (IntS.still Q218.out hg20 (by omega)); clear Q218
            have SR20 := Lib.hid (ISS.still SR18.out hg20 (by omega)); clear SR18
            have Y20 := Lib.hid (BoxN.still Y18.out hg20); clear Y18
            have Q320 := Lib.hid (IntS.still Q318.out hg20 (by omega)); clear Q318
            have Q420 := Lib.hid (IntS.still Q418.out hg20 (by omega)); clear Q418
            by_cases hg : wkGood M R = true
            case neg =>
              have hg' : wkGood M R = false := by simpa using hg
              rw [hg']
              go_wp2_with fail
              go_ret
              exact ⟨rfl, (HF20.out.below_of (Below.refl _ _) (by omega) (by omega))⟩
            have HG := Lib.hid hg
            obtain ⟨n, hn, n1, n12⟩ := good_L hg
            have HGN := Lib.hid (show wkGood (n : Int) R = true by rw [← hn]; exact hg)
            have HN := Lib.hid hn
            rw [hg]
            clear hg hn
            by_cases h1 : 0 ≤ a
            case neg =>
              have kx21_0 : W20.cell? ⟨W12.heap.size, 0, none⟩ = some (.int .i64 M) := Y20.out.cell 0 (by simp)
              have kx21_1 : W20.cell? ⟨W12.heap.size, 1, none⟩ = some ((.slice Ar R.length cr)) := Y20.out.cell 1 (by simp)
              go_wp2_with fail
              go_ret
              exact ⟨rfl, (HF20.out.below_of (Below.refl _ _) (by omega) (by omega))⟩
            by_cases h2 : a < M
            case neg =>
              have kx22_0 : W20.cell? ⟨W12.heap.size, 0, none⟩ = some (.int .i64 M) := Y20.out.cell 0 (by simp)
              have kx22_1 : W20.cell? ⟨W12.heap.size, 1, none⟩ = some ((.slice Ar R.length cr)) := Y20.out.cell 1 (by simp)
              go_wp2_with fail
              go_ret
              exact ⟨rfl, (HF20.out.below_of (Below.refl _ _) (by omega) (by omega))⟩
            by_cases h4 : b < M
            case neg =>
              have kx23_0 : W20.cell? ⟨W12.heap.size, 0, none⟩ = some (.int .i64 M) := Y20.out.cell 0 (by simp)
              have kx23_1 : W20.cell? ⟨W12.heap.size, 1, none⟩ = some ((.slice Ar R.length cr)) := Y20.out.cell 1 (by simp)
              go_wp2_with fail
              go_ret
              exact ⟨rfl, (HF20.out.below_of (Below.refl _ _) (by omega) (by omega))⟩
            obtain ⟨x, rfl⟩ : ∃ x : Nat, a = x := ⟨a.toNat, by omega⟩
            obtain ⟨y, rfl⟩ : ∃ y : Nat, b = y := ⟨b.toNat, by omega⟩
            obtain ⟨q, rfl⟩ : ∃ q : Nat, r = q := ⟨r.toNat, by omega⟩
            obtain rfl : M = (n : Int) := HN.out
            have hxn : x < n := by omega
            have hyn : y < n := by omega
            have kx24_0 : W20.cell? ⟨W12.heap.size, 0, none⟩ = some (.int .i64 (n : Nat)) := Y20.out.cell 0 (by simp)
            have kx24_1 : W20.cell? ⟨W12.heap.size, 1, none⟩ = some ((.slice Ar R.length cr)) := Y20.out.cell 1 (by simp)
            go_wp2_with fail
            clear kx24_0 kx24_1
            refine (PowerWalk_any n _ R _ _ q _ SR20.out (by omega) HGN.out (by omega) (by omega)).mono ?_
            rintro e W25 ⟨r9, rfl, hr9, hb25⟩
            have hg25 := grown_below hb25; clear hb25
            have hs25 := hg25.size
            have HF25 := Lib.hid (HF20.out.still hg25); clear HF20
            have S25 := Lib.hid (ISS.still S20.out hg25 (by omega)); clear S20
            have X25 := Lib.hid (BoxN.still X20.out hg25); clear X20
            have Q125 := Lib.hid (IntS.still Q120.out hg25 (by omega)); clear Q120
            have Q225 := Lib.hid (IntS.still Q220.out hg25 (by omega)); clear Q220
            have SR25 := Lib.hid (ISS.still SR20.out hg25 (by omega)); clear SR20
            have Y25 := Lib.hid (BoxN.still Y20.out hg25); clear Y20
            have Q325 := Lib.hid (IntS.still Q320.out hg25 (by omega)); clear Q320
            have Q425 := Lib.hid (IntS.still Q420.out hg25 (by omega)); clear Q420
            have HP9 := Lib.hid hr9; clear hr9
            obtain ⟨Aw, cw, rfl, hcw, hdw⟩ := SS.dims HP9.out
            obtain ⟨pl, HPL⟩ : ∃ z, Hid ((powR n (may R) q n).length = z) := ⟨_, Lib.hid rfl⟩
            rw [HPL.out] at hcw HP9
            rw [HPL.out]
            go_upto_region 28 with (fail)
            refine nameC ?_
            intro W26 HW26
            have hg26 : W25.grownBy W26 none := by rw [HW26.out]; exact grown_alloc _ _
            have hs26 := hg26.size
            have HF26 := Lib.hid (HF25.out.still hg26); clear HF25
            have S26 := Lib.hid (ISS.still S25.out hg26 (by omega)); clear S25
            have X26 := Lib.hid (BoxN.still X25.out hg26); clear X25
            have Q126 := Lib.hid (IntS.still Q125.out hg26 (by omega)); clear Q125
            have Q226 := Lib.hid (IntS.still Q225.out hg26 (by omega)); clear Q225
            have SR26 := Lib.hid (ISS.still SR25.out hg26 (by omega)); clear SR25
            have Y26 := Lib.hid (BoxN.still Y25.out hg26); clear Y25
            have Q326 := Lib.hid (IntS.still Q325.out hg26 (by omega)); clear Q325
            have Q426 := Lib.hid (IntS.still Q425.out hg26 (by omega)); clear Q425
            have PW26 := Lib.hid (ISS.still HP9.out hg26 (by omega)); clear HP9
            have Z26 := Lib.hid (show BoxN W26 W25.heap.size #[.int .i64 (n : Nat), (.slice Aw pl cw)] 26 by rw [HW26.out]; first | exact BoxN.new _ _ _ | exact ((BoxN.new _ _ _).set 0 _).set 1 _)
            clear HW26
            by_cases hq199 : 199 < q
            case pos =>
              have hqi : (199 : Int) < (q : Int) := by omega
              go_wp2_with fail
              go_ret
              exact ⟨rfl, (HF26.out.below_of (Below.refl _ _) (by omega) (by omega))⟩
            have hqi : ¬ (199 : Int) < (q : Int) := by omega
            have HTW := Lib.hid (show hasArc (powR n (may R) q n) (x : Int) (y : Int) = false by rw [hasArc_pow hxn hyn, ← HTH.out, wbOk_w HGN.out hxn hyn (by omega)])
            have code_26 := Lib.hid (ByS.turned F1.out HF26.out (by omega) (by omega)); clear F1
            have more_26 := Lib.hid (ByS.turned F2.out HF26.out (by omega) (by omega)); clear F2
            have hbA26 : Below w.heap.size w W26 := (HF26.out.below_of (Below.refl _ _) (by omega) (by omega)); clear  HF26
            have kz0 : W26.cell? ⟨W25.heap.size, 0, none⟩ = some (.int .i64 (n : Nat)) := Z26.out.cell 0 (by simp)
            have kz1 : W26.cell? ⟨W25.heap.size, 1, none⟩ = some ((.slice Aw pl cw)) := Z26.out.cell 1 (by simp)
            go_wp2_with fail
            clear kz0 kz1
            go_loop [31, 236] (fun bv jv => ∃ (j : Nat) (c : Bool), j ≤ pl ∧ jv = .int .i64 j ∧ bv = .bool c ∧ Hid (c = hasArc ((powR n (may R) q n).take j) (x : Int) (y : Int))) (fun bv jv => pl - (intOf jv).toNat)
            case atStart => exact ⟨0, false, Nat.zero_le _, rfl, rfl, Lib.hid rfl⟩
            case round =>
              obtain ⟨j, c, hj, rfl, rfl, HCC⟩ := hrel
              by_cases hjl : j < pl
              case pos =>
                as_aux_lemma =>
                  have hji : (j : Int) < pl := by omega
                  obtain ⟨u, v, euv⟩ := powR_at (n := n) (k := q) (c := n) (m := may R) (j := j) (by rw [HPL.out]; exact hjl)
                  obtain ⟨bw, ow, uw, rfl, _, hbw, xw, huw⟩ := SS.opened PW26.out (j := j) (by rw [HPL.out]; exact hjl)
                  rw [euv] at huw
                  obtain ⟨Au, cu, rfl, hcu, hdu⟩ := huw.dims
                  obtain ⟨bu, ou, rfl, _, hbu, x0, _⟩ := huw.opened (j := 0) (by simp)
                  obtain ⟨_, _, e9, _, _, x1, _⟩ := huw.opened (j := 1) (by simp)
                  cases e9
                  rw [show nth [(u : Int), (v : Int)] 0 = (u : Int) from rfl, Nat.add_zero] at x0
                  rw [show nth [(u : Int), (v : Int)] 1 = (v : Int) from rfl] at x1
                  have hst := hasArc_take (l := powR n (may R) q n) (k := j) (by rw [HPL.out]; exact hjl) (x : Int) (y : Int)
                  rw [euv, show nth [(u : Int), (v : Int)] 0 = (u : Int) from rfl, show nth [(u : Int), (v : Int)] 1 = (v : Int) from rfl, ← HCC.out] at hst
                  have HST := Lib.hid hst
                  simp only [List.length_cons, List.length_nil, Nat.zero_add] at hcu xw
                  clear hst euv huw
                  obtain ⟨d1, HD1⟩ : ∃ d, Hid (((u : Int) == (x : Int)) = d) := ⟨_, Lib.hid rfl⟩
                  obtain ⟨d2, HD2⟩ : ∃ d, Hid (((v : Int) == (y : Int)) = d) := ⟨_, Lib.hid rfl⟩
                  have e1 := HD1.out
                  have e2 := HD2.out
                  rw [e1, e2] at HST
                  cases c <;> cases d1 <;> cases d2 <;>
                    (go_wp2_with fail
                     go_round
                     case rel => exact ⟨j + 1, _, by omega, by go_num, rfl, Lib.hid (by rw [HST.out]; rfl)⟩
                     case measure => simp [intOf]; omega)
              obtain rfl : j = pl := by omega
              have hji : ¬ (j : Int) < j := by omega
              have hcc : c = false := by rw [HCC.out, List.take_of_length_le (by rw [HPL.out]; exact Nat.le_refl _), HTW.out]
              subst hcc
              go_wp2_with fail
              go_ret
              exact ⟨rfl, hbA26⟩
        | true =>
          as_aux_lemma =>
            obtain ⟨n0, q0, e1, e2, hg0, hq0, hwl, hin, hwk, hz0, hzq⟩ := wb_yes HTH.out
            rw [HWS.out] at hwl hin hwk hz0 hzq
            rw [HWL.out] at hwl
            obtain rfl : M = (n0 : Int) := e1
            obtain rfl : r = (q0 : Int) := e2
            obtain rfl : wl = q0 + 1 := hwl
            have HIN := Lib.hid hin; have HWK := Lib.hid hwk; have HG0 := Lib.hid hg0; have HZ0 := Lib.hid hz0; have HZQ := Lib.hid hzq
            clear hin hwk hg0 hz0 hzq
            obtain ⟨B1, HB9⟩ : ∃ z, Hid (q0 + 1 = z) := ⟨_, Lib.hid rfl⟩
            rw [HB9.out] at HWL
            rw [HWL.out] at hc6 hc7 Q318 Q418
            rw [HWL.out]
            have hB1 := HB9.out
            have kx28_0 : W18.cell? ⟨W12.heap.size, 0, none⟩ = some (.int .i64 (n0 : Nat)) := Y18.out.cell 0 (by simp)
            have kx28_1 : W18.cell? ⟨W12.heap.size, 1, none⟩ = some ((.slice Ar R.length cr)) := Y18.out.cell 1 (by simp)
            go_wp2_with fail
            clear kx28_0 kx28_1
            refine (IsPathLabeling_any n0 _ R _ _ _ ws _ _ _ SR18.out (by omega) Q318.out (by omega) HG0.out HIN.out (by rw [HWL.out]; omega) (by rw [HWL.out]; omega)).mono ?_
            rintro e W29 ⟨rfl, hb29⟩
            have hg29 := grown_below hb29; clear hb29
            have hs29 := hg29.size
            have HF29 := Lib.hid (HF18.out.still hg29); clear HF18
            have S29 := Lib.hid (ISS.still S18.out hg29 (by omega)); clear S18
            have X29 := Lib.hid (BoxN.still X18.out hg29); clear X18
            have Q129 := Lib.hid (IntS.still Q118.out hg29 (by omega)); clear Q118
            have Q229 := Lib.hid (IntS.still Q218.out hg29 (by omega)); clear Q218
            have SR29 := Lib.hid (ISS.still SR18.out hg29 (by omega)); clear SR18
            have Y29 := Lib.hid (BoxN.still Y18.out hg29); clear Y18
            have Q329 := Lib.hid (IntS.still Q318.out hg29 (by omega)); clear Q318
            have Q429 := Lib.hid (IntS.still Q418.out hg29 (by omega)); clear Q418
            rw [HWK.out]
            obtain ⟨bz, oz, rfl, _, _, x0, _⟩ := IntS.opened Q329.out (j := 0) (by rw [HWL.out]; omega)
            obtain ⟨_, _, e9, _, _, xq, _⟩ := IntS.opened Q329.out (j := q0) (by rw [HWL.out]; omega)
            cases e9
            rw [HZ0.out, Nat.add_zero] at x0
            rw [HZQ.out] at xq
            have hwr : IntKind.i64.wrap ((q0 : Int) + 1) = (B1 : Int) := by rw [IntWalk.i64_in _ (by omega)]; omega
            have hn1 : ((B1 : Int) != (B1 : Int)) = false := by simp
            have hn2 : (a != a) = false := by simp
            have hn3 : (b != b) = false := by simp
            have hqB : (q0 : Int) < B1 := by omega
            have hqB0 : (0 : Int) < B1 := by omega
            clear hB1
            by_cases hr1 : 1 ≤ (q0 : Int)
            case neg =>
              go_wp2_with fail
              go_ret
              exact ⟨rfl, (HF29.out.below_of (Below.refl _ _) (by omega) (by omega))⟩
            have kx30_0 : W29.cell? ⟨W12.heap.size, 0, none⟩ = some (.int .i64 (n0 : Nat)) := Y29.out.cell 0 (by simp)
            have kx30_1 : W29.cell? ⟨W12.heap.size, 1, none⟩ = some ((.slice Ar R.length cr)) := Y29.out.cell 1 (by simp)
            go_wp2_with fail
            clear kx30_0 kx30_1
            clear hwr x0 xq
            refine (IsWalkProblem_any (n0 : Int) _ R _ _ _ SR29.out (by omega)).mono ?_
            rintro e W31 ⟨rfl, hb31⟩
            have hg31 := grown_below hb31; clear hb31
            have hs31 := hg31.size
            have HF31 := Lib.hid (HF29.out.still hg31); clear HF29
            have S31 := Lib.hid (ISS.still S29.out hg31 (by omega)); clear S29
            have X31 := Lib.hid (BoxN.still X29.out hg31); clear X29
            have Q131 := Lib.hid (IntS.still Q129.out hg31 (by omega)); clear Q129
            have Q231 := Lib.hid (IntS.still Q229.out hg31 (by omega)); clear Q229
            have SR31 := Lib.hid (ISS.still SR29.out hg31 (by omega)); clear SR29
            have Y31 := Lib.hid (BoxN.still Y29.out hg31); clear Y29
            have Q331 := Lib.hid (IntS.still Q329.out hg31 (by omega)); clear Q329
            have Q431 := Lib.hid (IntS.still Q429.out hg31 (by omega)); clear Q429
            by_cases hg : wkGood (n0 : Int) R = true
            case neg =>
              have hg' : wkGood (n0 : Int) R = false := by simpa using hg
              rw [hg']
              go_wp2_with fail
              go_ret
              exact ⟨rfl, (HF31.out.below_of (Below.refl _ _) (by omega) (by omega))⟩
            have HG := Lib.hid hg
            obtain ⟨n, hn, n1, n12⟩ := good_L hg
            have HGN := Lib.hid (show wkGood (n : Int) R = true by rw [← hn]; exact hg)
            have HN := Lib.hid hn
            rw [hg]
            clear hg hn
            by_cases h1 : 0 ≤ a
            case neg =>
              have kx32_0 : W31.cell? ⟨W12.heap.size, 0, none⟩ = some (.int .i64 (n0 : Nat)) := Y31.out.cell 0 (by simp)
              have kx32_1 : W31.cell? ⟨W12.heap.size, 1, none⟩ = some ((.slice Ar R.length cr)) := Y31.out.cell 1 (by simp)
              go_wp2_with fail
              go_ret
              exact ⟨rfl, (HF31.out.below_of (Below.refl _ _) (by omega) (by omega))⟩
            by_cases h2 : a < (n0 : Int)
            case neg =>
              have kx33_0 : W31.cell? ⟨W12.heap.size, 0, none⟩ = some (.int .i64 (n0 : Nat)) := Y31.out.cell 0 (by simp)
              have kx33_1 : W31.cell? ⟨W12.heap.size, 1, none⟩ = some ((.slice Ar R.length cr)) := Y31.out.cell 1 (by simp)
              go_wp2_with fail
              go_ret
              exact ⟨rfl, (HF31.out.below_of (Below.refl _ _) (by omega) (by omega))⟩
            by_cases h4 : b < (n0 : Int)
            case neg =>
              have kx34_0 : W31.cell? ⟨W12.heap.size, 0, none⟩ = some (.int .i64 (n0 : Nat)) := Y31.out.cell 0 (by simp)
              have kx34_1 : W31.cell? ⟨W12.heap.size, 1, none⟩ = some ((.slice Ar R.length cr)) := Y31.out.cell 1 (by simp)
              go_wp2_with fail
              go_ret
              exact ⟨rfl, (HF31.out.below_of (Below.refl _ _) (by omega) (by omega))⟩
            obtain ⟨x, rfl⟩ : ∃ x : Nat, a = x := ⟨a.toNat, by omega⟩
            obtain ⟨y, rfl⟩ : ∃ y : Nat, b = y := ⟨b.toNat, by omega⟩
            obtain ⟨q, hqq⟩ : ∃ q : Nat, q = q0 := ⟨_, rfl⟩
            subst hqq
            obtain rfl : n = n0 := by have := HN.out; omega
            have hxn : x < n := by omega
            have hyn : y < n := by omega
            have kx35_0 : W31.cell? ⟨W12.heap.size, 0, none⟩ = some (.int .i64 (n : Nat)) := Y31.out.cell 0 (by simp)
            have kx35_1 : W31.cell? ⟨W12.heap.size, 1, none⟩ = some ((.slice Ar R.length cr)) := Y31.out.cell 1 (by simp)
            go_wp2_with fail
            clear kx35_0 kx35_1
            refine (PowerWalk_any n _ R _ _ q _ SR31.out (by omega) HGN.out (by omega) (by omega)).mono ?_
            rintro e W36 ⟨r9, rfl, hr9, hb36⟩
            have hg36 := grown_below hb36; clear hb36
            have hs36 := hg36.size
            have HF36 := Lib.hid (HF31.out.still hg36); clear HF31
            have S36 := Lib.hid (ISS.still S31.out hg36 (by omega)); clear S31
            have X36 := Lib.hid (BoxN.still X31.out hg36); clear X31
            have Q136 := Lib.hid (IntS.still Q131.out hg36 (by omega)); clear Q131
            have Q236 := Lib.hid (IntS.still Q231.out hg36 (by omega)); clear Q231
            have SR36 := Lib.hid (ISS.still SR31.out hg36 (by omega)); clear SR31
            have Y36 := Lib.hid (BoxN.still Y31.out hg36); clear Y31
            have Q336 := Lib.hid (IntS.still Q331.out hg36 (by omega)); clear Q331
            have Q436 := Lib.hid (IntS.still Q431.out hg36 (by omega)); clear Q431
            have HP9 := Lib.hid hr9; clear hr9
            obtain ⟨Aw, cw, rfl, hcw, hdw⟩ := SS.dims HP9.out
            obtain ⟨pl, HPL⟩ : ∃ z, Hid ((powR n (may R) q n).length = z) := ⟨_, Lib.hid rfl⟩
            rw [HPL.out] at hcw HP9
            rw [HPL.out]
            go_upto_region 28 with (fail)
            refine nameC ?_
            intro W37 HW37
            have hg37 : W36.grownBy W37 none := by rw [HW37.out]; exact grown_alloc _ _
            have hs37 := hg37.size
            have HF37 := Lib.hid (HF36.out.still hg37); clear HF36
            have S37 := Lib.hid (ISS.still S36.out hg37 (by omega)); clear S36
            have X37 := Lib.hid (BoxN.still X36.out hg37); clear X36
            have Q137 := Lib.hid (IntS.still Q136.out hg37 (by omega)); clear Q136
            have Q237 := Lib.hid (IntS.still Q236.out hg37 (by omega)); clear Q236
            have SR37 := Lib.hid (ISS.still SR36.out hg37 (by omega)); clear SR36
            have Y37 := Lib.hid (BoxN.still Y36.out hg37); clear Y36
            have Q337 := Lib.hid (IntS.still Q336.out hg37 (by omega)); clear Q336
            have Q437 := Lib.hid (IntS.still Q436.out hg37 (by omega)); clear Q436
            have PW37 := Lib.hid (ISS.still HP9.out hg37 (by omega)); clear HP9
            have Z37 := Lib.hid (show BoxN W37 W36.heap.size #[.int .i64 (n : Nat), (.slice Aw pl cw)] 26 by rw [HW37.out]; first | exact BoxN.new _ _ _ | exact ((BoxN.new _ _ _).set 0 _).set 1 _)
            clear HW37
            by_cases hq199 : 199 < q
            case pos =>
              have hqi : (199 : Int) < (q : Int) := by omega
              go_wp2_with fail
              go_ret
              exact ⟨rfl, (HF37.out.below_of (Below.refl _ _) (by omega) (by omega))⟩
            have hqi : ¬ (199 : Int) < (q : Int) := by omega
            have HTW := Lib.hid (show hasArc (powR n (may R) q n) (x : Int) (y : Int) = true by rw [hasArc_pow hxn hyn, ← HTH.out, wbOk_w HGN.out hxn hyn (by omega)])
            have code_37 := Lib.hid (ByS.turned F1.out HF37.out (by omega) (by omega)); clear F1
            have more_37 := Lib.hid (ByS.turned F2.out HF37.out (by omega) (by omega)); clear F2
            have hbA37 : Below w.heap.size w W37 := (HF37.out.below_of (Below.refl _ _) (by omega) (by omega)); clear  HF37
            have kz0 : W37.cell? ⟨W36.heap.size, 0, none⟩ = some (.int .i64 (n : Nat)) := Z37.out.cell 0 (by simp)
            have kz1 : W37.cell? ⟨W36.heap.size, 1, none⟩ = some ((.slice Aw pl cw)) := Z37.out.cell 1 (by simp)
            go_wp2_with fail
            clear kz0 kz1
            go_loop [31, 236] (fun bv jv => ∃ (j : Nat) (c : Bool), j ≤ pl ∧ jv = .int .i64 j ∧ bv = .bool c ∧ Hid (c = hasArc ((powR n (may R) q n).take j) (x : Int) (y : Int))) (fun bv jv => pl - (intOf jv).toNat)
            case atStart => exact ⟨0, false, Nat.zero_le _, rfl, rfl, Lib.hid rfl⟩
            case round =>
              obtain ⟨j, c, hj, rfl, rfl, HCC⟩ := hrel
              by_cases hjl : j < pl
              case pos =>
                as_aux_lemma =>
                  have hji : (j : Int) < pl := by omega
                  obtain ⟨u, v, euv⟩ := powR_at (n := n) (k := q) (c := n) (m := may R) (j := j) (by rw [HPL.out]; exact hjl)
                  obtain ⟨bw, ow, uw, rfl, _, hbw, xw, huw⟩ := SS.opened PW37.out (j := j) (by rw [HPL.out]; exact hjl)
                  rw [euv] at huw
                  obtain ⟨Au, cu, rfl, hcu, hdu⟩ := huw.dims
                  obtain ⟨bu, ou, rfl, _, hbu, x0, _⟩ := huw.opened (j := 0) (by simp)
                  obtain ⟨_, _, e9, _, _, x1, _⟩ := huw.opened (j := 1) (by simp)
                  cases e9
                  rw [show nth [(u : Int), (v : Int)] 0 = (u : Int) from rfl, Nat.add_zero] at x0
                  rw [show nth [(u : Int), (v : Int)] 1 = (v : Int) from rfl] at x1
                  have hst := hasArc_take (l := powR n (may R) q n) (k := j) (by rw [HPL.out]; exact hjl) (x : Int) (y : Int)
                  rw [euv, show nth [(u : Int), (v : Int)] 0 = (u : Int) from rfl, show nth [(u : Int), (v : Int)] 1 = (v : Int) from rfl, ← HCC.out] at hst
                  have HST := Lib.hid hst
                  simp only [List.length_cons, List.length_nil, Nat.zero_add] at hcu xw
                  clear hst euv huw
                  obtain ⟨d1, HD1⟩ : ∃ d, Hid (((u : Int) == (x : Int)) = d) := ⟨_, Lib.hid rfl⟩
                  obtain ⟨d2, HD2⟩ : ∃ d, Hid (((v : Int) == (y : Int)) = d) := ⟨_, Lib.hid rfl⟩
                  have e1 := HD1.out
                  have e2 := HD2.out
                  rw [e1, e2] at HST
                  cases c <;> cases d1 <;> cases d2 <;>
                    (go_wp2_with fail
                     go_round
                     case rel => exact ⟨j + 1, _, by omega, by go_num, rfl, Lib.hid (by rw [HST.out]; rfl)⟩
                     case measure => simp [intOf]; omega)
              obtain rfl : j = pl := by omega
              have hji : ¬ (j : Int) < j := by omega
              have hcc : c = true := by rw [HCC.out, List.take_of_length_le (by rw [HPL.out]; exact Nat.le_refl _), HTW.out]
              subst hcc
              go_wp2_with fail
              go_ret
              exact ⟨rfl, hbA37⟩
    | true =>
      as_aux_lemma =>
        have hcp := fc_no HOK.out HONE.out
        rw [HCV.out] at hcp
        go_wp2_with fail
        refine (DrawBetween_any _ more lo2 hi2 _ (ByS.turned F2.out HF11.out (by omega) (by omega)) (by omega) HB2.out (by omega)).mono ?_
        rintro e W39 ⟨M, r2, R, a, b, r, rfl, M1, M13, a1, a13, b1, b14, r1, r200, hss2, hb39⟩
        have hg39 := grown_below hb39; clear hb39
        have hs39 := hg39.size
        have HF39 := Lib.hid (HF11.out.still hg39); clear HF11
        have S39 := Lib.hid (ISS.still S11.out hg39 (by omega)); clear S11
        have X39 := Lib.hid (BoxN.still X11.out hg39); clear X11
        have Q139 := Lib.hid (IntS.still Q111.out hg39 (by omega)); clear Q111
        have Q239 := Lib.hid (IntS.still Q211.out hg39 (by omega)); clear Q211
        have SR39 := Lib.hid hss2; clear hss2
        obtain ⟨Ar, cr, rfl, hcr, hdr⟩ := SS.dims SR39.out
        go_upto_region 18 with (fail)
        refine nameC ?_
        intro W40 HW40
        have hg40 : W39.grownBy W40 none := by rw [HW40.out]; exact grown_alloc _ _
        have hs40 := hg40.size
        have HF40 := Lib.hid (HF39.out.still hg40); clear HF39
        have S40 := Lib.hid (ISS.still S39.out hg40 (by omega)); clear S39
        have X40 := Lib.hid (BoxN.still X39.out hg40); clear X39
        have Q140 := Lib.hid (IntS.still Q139.out hg40 (by omega)); clear Q139
        have Q240 := Lib.hid (IntS.still Q239.out hg40 (by omega)); clear Q239
        have SR40 := Lib.hid (ISS.still SR39.out hg40 (by omega)); clear SR39
        have Y40 := Lib.hid (show BoxN W40 W39.heap.size #[.int .i64 M, (.slice Ar R.length cr)] 26 by rw [HW40.out]; first | exact BoxN.new _ _ _ | exact ((BoxN.new _ _ _).set 0 _).set 1 _)
        clear HW40
        have kx41_0 : W40.cell? ⟨W39.heap.size, 0, none⟩ = some (.int .i64 M) := Y40.out.cell 0 (by simp)
        have kx41_1 : W40.cell? ⟨W39.heap.size, 1, none⟩ = some ((.slice Ar R.length cr)) := Y40.out.cell 1 (by simp)
        go_wp2_with fail
        clear kx41_0 kx41_1
        refine (WalkBetween_impl M _ R _ _ a b r _ SR40.out (by omega) (by omega) (by omega)).mono ?_
        rintro e W42 ⟨q3, rfl, hq3, hb42⟩
        have hg42 := grown_below hb42; clear hb42
        have hs42 := hg42.size
        have HF42 := Lib.hid (HF40.out.still hg42); clear HF40
        have S42 := Lib.hid (ISS.still S40.out hg42 (by omega)); clear S40
        have X42 := Lib.hid (BoxN.still X40.out hg42); clear X40
        have Q142 := Lib.hid (IntS.still Q140.out hg42 (by omega)); clear Q140
        have Q242 := Lib.hid (IntS.still Q240.out hg42 (by omega)); clear Q240
        have SR42 := Lib.hid (ISS.still SR40.out hg42 (by omega)); clear SR40
        have Y42 := Lib.hid (BoxN.still Y40.out hg42); clear Y40
        have Q342 := Lib.hid hq3; clear hq3
        obtain ⟨A6, c6, rfl, hc6, hd6⟩ := IntS.dims Q342.out
        have kx43_0 : W42.cell? ⟨W39.heap.size, 0, none⟩ = some (.int .i64 M) := Y42.out.cell 0 (by simp)
        have kx43_1 : W42.cell? ⟨W39.heap.size, 1, none⟩ = some ((.slice Ar R.length cr)) := Y42.out.cell 1 (by simp)
        go_wp2_with fail
        clear kx43_0 kx43_1
        refine (WalkBetween_spec M _ R _ _ a b r _ SR42.out (by omega) (by omega) (by omega)).mono ?_
        rintro e W44 ⟨q4, rfl, hq4, hb44⟩
        have hg44 := grown_below hb44; clear hb44
        have hs44 := hg44.size
        have HF44 := Lib.hid (HF42.out.still hg44); clear HF42
        have S44 := Lib.hid (ISS.still S42.out hg44 (by omega)); clear S42
        have X44 := Lib.hid (BoxN.still X42.out hg44); clear X42
        have Q144 := Lib.hid (IntS.still Q142.out hg44 (by omega)); clear Q142
        have Q244 := Lib.hid (IntS.still Q242.out hg44 (by omega)); clear Q242
        have SR44 := Lib.hid (ISS.still SR42.out hg44 (by omega)); clear SR42
        have Y44 := Lib.hid (BoxN.still Y42.out hg44); clear Y42
        have Q344 := Lib.hid (IntS.still Q342.out hg44 (by omega)); clear Q342
        have Q444 := Lib.hid hq4; clear hq4
        obtain ⟨A7, c7, rfl, hc7, hd7⟩ := IntS.dims Q444.out
        obtain ⟨three, HTH⟩ : ∃ z, Hid (wbOk M R a b r = z) := ⟨_, Lib.hid rfl⟩
        obtain ⟨ws, HWS⟩ : ∃ z, Hid (wbOut M R a b r = z) := ⟨_, Lib.hid rfl⟩
        rw [HTH.out]
        rw [HWS.out] at Q344 Q444 hc6 hc7
        rw [HWS.out]
        obtain ⟨wl, HWL⟩ : ∃ x, Hid (ws.length = x) := ⟨_, Lib.hid rfl⟩
        have hne : (three != three) = false := by simp
        go_wp2_with fail
        refine (sameInts_same _ ws _ _ _ ws _ _ _ Q344.out (by omega) Q444.out (by omega) rfl).mono ?_
        rintro e W45 ⟨rfl, hb45⟩
        have hg45 := grown_below hb45; clear hb45
        have hs45 := hg45.size
        have HF45 := Lib.hid (HF44.out.still hg45); clear HF44
        have S45 := Lib.hid (ISS.still S44.out hg45 (by omega)); clear S44
        have X45 := Lib.hid (BoxN.still X44.out hg45); clear X44
        have Q145 := Lib.hid (IntS.still Q144.out hg45 (by omega)); clear Q144
        have Q245 := Lib.hid (IntS.still Q244.out hg45 (by omega)); clear Q244
        have SR45 := Lib.hid (ISS.still SR44.out hg45 (by omega)); clear SR44
        have Y45 := Lib.hid (BoxN.still Y44.out hg45); clear Y44
        have Q345 := Lib.hid (IntS.still Q344.out hg45 (by omega)); clear Q344
        have Q445 := Lib.hid (IntS.still Q444.out hg45 (by omega)); clear Q444
        cases three with
        | false =>
          as_aux_lemma =>
            by_cases hr1 : 1 ≤ r
            case neg =>
              go_wp2_with fail
              go_ret
              exact ⟨rfl, (HF45.out.below_of (Below.refl _ _) (by omega) (by omega))⟩
            have kx46_0 : W45.cell? ⟨W39.heap.size, 0, none⟩ = some (.int .i64 M) := Y45.out.cell 0 (by simp)
            have kx46_1 : W45.cell? ⟨W39.heap.size, 1, none⟩ = some ((.slice Ar R.length cr)) := Y45.out.cell 1 (by simp)
            go_wp2_with fail
            clear kx46_0 kx46_1
            refine (IsWalkProblem_any M _ R _ _ _ SR45.out (by omega)).mono ?_
            rintro e W47 ⟨rfl, hb47⟩
            have hg47 := grown_below hb47; clear hb47
            have hs47 := hg47.size
            have HF47 := Lib.hid (HF45.out.still hg47); clear HF45
            have S47 := Lib.hid (ISS.still S45.out hg47 (by omega)); clear S45
            have X47 := Lib.hid (BoxN.still X45.out hg47); clear X45
            have Q147 := Lib.hid (IntS.still Q145.out hg47 (by omega)); clear Q145
            have Q247 := Lib.hid (IntS.still Q245.out hg47 (by omega)); clear Q245
            have SR47 := Lib.hid (ISS.still SR45.out hg47 (by omega)); clear SR45
            have Y47 := Lib.hid (BoxN.still Y45.out hg47); clear Y45
            have Q347 := Lib.hid (IntS.still Q345.out hg47 (by omega)); clear Q345
            have Q447 := Lib.hid (IntS.still Q445.out hg47 (by omega)); clear Q445
            by_cases hg : wkGood M R = true
            case neg =>
              have hg' : wkGood M R = false := by simpa using hg
              rw [hg']
              go_wp2_with fail
              go_ret
              exact ⟨rfl, (HF47.out.below_of (Below.refl _ _) (by omega) (by omega))⟩
            have HG := Lib.hid hg
            obtain ⟨n, hn, n1, n12⟩ := good_L hg
            have HGN := Lib.hid (show wkGood (n : Int) R = true by rw [← hn]; exact hg)
            have HN := Lib.hid hn
            rw [hg]
            clear hg hn
            by_cases h1 : 0 ≤ a
            case neg =>
              have kx48_0 : W47.cell? ⟨W39.heap.size, 0, none⟩ = some (.int .i64 M) := Y47.out.cell 0 (by simp)
              have kx48_1 : W47.cell? ⟨W39.heap.size, 1, none⟩ = some ((.slice Ar R.length cr)) := Y47.out.cell 1 (by simp)
              go_wp2_with fail
              go_ret
              exact ⟨rfl, (HF47.out.below_of (Below.refl _ _) (by omega) (by omega))⟩
            by_cases h2 : a < M
            case neg =>
              have kx49_0 : W47.cell? ⟨W39.heap.size, 0, none⟩ = some (.int .i64 M) := Y47.out.cell 0 (by simp)
              have kx49_1 : W47.cell? ⟨W39.heap.size, 1, none⟩ = some ((.slice Ar R.length cr)) := Y47.out.cell 1 (by simp)
              go_wp2_with fail
              go_ret
              exact ⟨rfl, (HF47.out.below_of (Below.refl _ _) (by omega) (by omega))⟩
            by_cases h4 : b < M
            case neg =>
              have kx50_0 : W47.cell? ⟨W39.heap.size, 0, none⟩ = some (.int .i64 M) := Y47.out.cell 0 (by simp)
              have kx50_1 : W47.cell? ⟨W39.heap.size, 1, none⟩ = some ((.slice Ar R.length cr)) := Y47.out.cell 1 (by simp)
              go_wp2_with fail
              go_ret
              exact ⟨rfl, (HF47.out.below_of (Below.refl _ _) (by omega) (by omega))⟩
            obtain ⟨x, rfl⟩ : ∃ x : Nat, a = x := ⟨a.toNat, by omega⟩
            obtain ⟨y, rfl⟩ : ∃ y : Nat, b = y := ⟨b.toNat, by omega⟩
            obtain ⟨q, rfl⟩ : ∃ q : Nat, r = q := ⟨r.toNat, by omega⟩
            obtain rfl : M = (n : Int) := HN.out
            have hxn : x < n := by omega
            have hyn : y < n := by omega
            have kx51_0 : W47.cell? ⟨W39.heap.size, 0, none⟩ = some (.int .i64 (n : Nat)) := Y47.out.cell 0 (by simp)
            have kx51_1 : W47.cell? ⟨W39.heap.size, 1, none⟩ = some ((.slice Ar R.length cr)) := Y47.out.cell 1 (by simp)
            go_wp2_with fail
            clear kx51_0 kx51_1
            refine (PowerWalk_any n _ R _ _ q _ SR47.out (by omega) HGN.out (by omega) (by omega)).mono ?_
            rintro e W52 ⟨r9, rfl, hr9, hb52⟩
            have hg52 := grown_below hb52; clear hb52
            have hs52 := hg52.size
            have HF52 := Lib.hid (HF47.out.still hg52); clear HF47
            have S52 := Lib.hid (ISS.still S47.out hg52 (by omega)); clear S47
            have X52 := Lib.hid (BoxN.still X47.out hg52); clear X47
            have Q152 := Lib.hid (IntS.still Q147.out hg52 (by omega)); clear Q147
            have Q252 := Lib.hid (IntS.still Q247.out hg52 (by omega)); clear Q247
            have SR52 := Lib.hid (ISS.still SR47.out hg52 (by omega)); clear SR47
            have Y52 := Lib.hid (BoxN.still Y47.out hg52); clear Y47
            have Q352 := Lib.hid (IntS.still Q347.out hg52 (by omega)); clear Q347
            have Q452 := Lib.hid (IntS.still Q447.out hg52 (by omega)); clear Q447
            have HP9 := Lib.hid hr9; clear hr9
            obtain ⟨Aw, cw, rfl, hcw, hdw⟩ := SS.dims HP9.out
            obtain ⟨pl, HPL⟩ : ∃ z, Hid ((powR n (may R) q n).length = z) := ⟨_, Lib.hid rfl⟩
            rw [HPL.out] at hcw HP9
            rw [HPL.out]
            go_upto_region 28 with (fail)
            refine nameC ?_
            intro W53 HW53
            have hg53 : W52.grownBy W53 none := by rw [HW53.out]; exact grown_alloc _ _
            have hs53 := hg53.size
            have HF53 := Lib.hid (HF52.out.still hg53); clear HF52
            have S53 := Lib.hid (ISS.still S52.out hg53 (by omega)); clear S52
            have X53 := Lib.hid (BoxN.still X52.out hg53); clear X52
            have Q153 := Lib.hid (IntS.still Q152.out hg53 (by omega)); clear Q152
            have Q253 := Lib.hid (IntS.still Q252.out hg53 (by omega)); clear Q252
            have SR53 := Lib.hid (ISS.still SR52.out hg53 (by omega)); clear SR52
            have Y53 := Lib.hid (BoxN.still Y52.out hg53); clear Y52
            have Q353 := Lib.hid (IntS.still Q352.out hg53 (by omega)); clear Q352
            have Q453 := Lib.hid (IntS.still Q452.out hg53 (by omega)); clear Q452
            have PW53 := Lib.hid (ISS.still HP9.out hg53 (by omega)); clear HP9
            have Z53 := Lib.hid (show BoxN W53 W52.heap.size #[.int .i64 (n : Nat), (.slice Aw pl cw)] 26 by rw [HW53.out]; first | exact BoxN.new _ _ _ | exact ((BoxN.new _ _ _).set 0 _).set 1 _)
            clear HW53
            by_cases hq199 : 199 < q
            case pos =>
              have hqi : (199 : Int) < (q : Int) := by omega
              go_wp2_with fail
              go_ret
              exact ⟨rfl, (HF53.out.below_of (Below.refl _ _) (by omega) (by omega))⟩
            have hqi : ¬ (199 : Int) < (q : Int) := by omega
            have HTW := Lib.hid (show hasArc (powR n (may R) q n) (x : Int) (y : Int) = false by rw [hasArc_pow hxn hyn, ← HTH.out, wbOk_w HGN.out hxn hyn (by omega)])
            have code_53 := Lib.hid (ByS.turned F1.out HF53.out (by omega) (by omega)); clear F1
            have more_53 := Lib.hid (ByS.turned F2.out HF53.out (by omega) (by omega)); clear F2
            have hbA53 : Below w.heap.size w W53 := (HF53.out.below_of (Below.refl _ _) (by omega) (by omega)); clear  HF53
            have kz0 : W53.cell? ⟨W52.heap.size, 0, none⟩ = some (.int .i64 (n : Nat)) := Z53.out.cell 0 (by simp)
            have kz1 : W53.cell? ⟨W52.heap.size, 1, none⟩ = some ((.slice Aw pl cw)) := Z53.out.cell 1 (by simp)
            go_wp2_with fail
            clear kz0 kz1
            go_loop [31, 236] (fun bv jv => ∃ (j : Nat) (c : Bool), j ≤ pl ∧ jv = .int .i64 j ∧ bv = .bool c ∧ Hid (c = hasArc ((powR n (may R) q n).take j) (x : Int) (y : Int))) (fun bv jv => pl - (intOf jv).toNat)
            case atStart => exact ⟨0, false, Nat.zero_le _, rfl, rfl, Lib.hid rfl⟩
            case round =>
              obtain ⟨j, c, hj, rfl, rfl, HCC⟩ := hrel
              by_cases hjl : j < pl
              case pos =>
                as_aux_lemma =>
                  have hji : (j : Int) < pl := by omega
                  obtain ⟨u, v, euv⟩ := powR_at (n := n) (k := q) (c := n) (m := may R) (j := j) (by rw [HPL.out]; exact hjl)
                  obtain ⟨bw, ow, uw, rfl, _, hbw, xw, huw⟩ := SS.opened PW53.out (j := j) (by rw [HPL.out]; exact hjl)
                  rw [euv] at huw
                  obtain ⟨Au, cu, rfl, hcu, hdu⟩ := huw.dims
                  obtain ⟨bu, ou, rfl, _, hbu, x0, _⟩ := huw.opened (j := 0) (by simp)
                  obtain ⟨_, _, e9, _, _, x1, _⟩ := huw.opened (j := 1) (by simp)
                  cases e9
                  rw [show nth [(u : Int), (v : Int)] 0 = (u : Int) from rfl, Nat.add_zero] at x0
                  rw [show nth [(u : Int), (v : Int)] 1 = (v : Int) from rfl] at x1
                  have hst := hasArc_take (l := powR n (may R) q n) (k := j) (by rw [HPL.out]; exact hjl) (x : Int) (y : Int)
                  rw [euv, show nth [(u : Int), (v : Int)] 0 = (u : Int) from rfl, show nth [(u : Int), (v : Int)] 1 = (v : Int) from rfl, ← HCC.out] at hst
                  have HST := Lib.hid hst
                  simp only [List.length_cons, List.length_nil, Nat.zero_add] at hcu xw
                  clear hst euv huw
                  obtain ⟨d1, HD1⟩ : ∃ d, Hid (((u : Int) == (x : Int)) = d) := ⟨_, Lib.hid rfl⟩
                  obtain ⟨d2, HD2⟩ : ∃ d, Hid (((v : Int) == (y : Int)) = d) := ⟨_, Lib.hid rfl⟩
                  have e1 := HD1.out
                  have e2 := HD2.out
                  rw [e1, e2] at HST
                  cases c <;> cases d1 <;> cases d2 <;>
                    (go_wp2_with fail
                     go_round
                     case rel => exact ⟨j + 1, _, by omega, by go_num, rfl, Lib.hid (by rw [HST.out]; rfl)⟩
                     case measure => simp [intOf]; omega)
              obtain rfl : j = pl := by omega
              have hji : ¬ (j : Int) < j := by omega
              have hcc : c = false := by rw [HCC.out, List.take_of_length_le (by rw [HPL.out]; exact Nat.le_refl _), HTW.out]
              subst hcc
              go_wp2_with fail
              go_ret
              exact ⟨rfl, hbA53⟩
        | true =>
          as_aux_lemma =>
            obtain ⟨n0, q0, e1, e2, hg0, hq0, hwl, hin, hwk, hz0, hzq⟩ := wb_yes HTH.out
            rw [HWS.out] at hwl hin hwk hz0 hzq
            rw [HWL.out] at hwl
            obtain rfl : M = (n0 : Int) := e1
            obtain rfl : r = (q0 : Int) := e2
            obtain rfl : wl = q0 + 1 := hwl
            have HIN := Lib.hid hin; have HWK := Lib.hid hwk; have HG0 := Lib.hid hg0; have HZ0 := Lib.hid hz0; have HZQ := Lib.hid hzq
            clear hin hwk hg0 hz0 hzq
            obtain ⟨B1, HB9⟩ : ∃ z, Hid (q0 + 1 = z) := ⟨_, Lib.hid rfl⟩
            rw [HB9.out] at HWL
            rw [HWL.out] at hc6 hc7 Q345 Q445
            rw [HWL.out]
            have hB1 := HB9.out
            have kx55_0 : W45.cell? ⟨W39.heap.size, 0, none⟩ = some (.int .i64 (n0 : Nat)) := Y45.out.cell 0 (by simp)
            have kx55_1 : W45.cell? ⟨W39.heap.size, 1, none⟩ = some ((.slice Ar R.length cr)) := Y45.out.cell 1 (by simp)
            go_wp2_with fail
            clear kx55_0 kx55_1
            refine (IsPathLabeling_any n0 _ R _ _ _ ws _ _ _ SR45.out (by omega) Q345.out (by omega) HG0.out HIN.out (by rw [HWL.out]; omega) (by rw [HWL.out]; omega)).mono ?_
            rintro e W56 ⟨rfl, hb56⟩
            have hg56 := grown_below hb56; clear hb56
            have hs56 := hg56.size
            have HF56 := Lib.hid (HF45.out.still hg56); clear HF45
            have S56 := Lib.hid (ISS.still S45.out hg56 (by omega)); clear S45
            have X56 := Lib.hid (BoxN.still X45.out hg56); clear X45
            have Q156 := Lib.hid (IntS.still Q145.out hg56 (by omega)); clear Q145
            have Q256 := Lib.hid (IntS.still Q245.out hg56 (by omega)); clear Q245
            have SR56 := Lib.hid (ISS.still SR45.out hg56 (by omega)); clear SR45
            have Y56 := Lib.hid (BoxN.still Y45.out hg56); clear Y45
            have Q356 := Lib.hid (IntS.still Q345.out hg56 (by omega)); clear Q345
            have Q456 := Lib.hid (IntS.still Q445.out hg56 (by omega)); clear Q445
            rw [HWK.out]
            obtain ⟨bz, oz, rfl, _, _, x0, _⟩ := IntS.opened Q356.out (j := 0) (by rw [HWL.out]; omega)
            obtain ⟨_, _, e9, _, _, xq, _⟩ := IntS.opened Q356.out (j := q0) (by rw [HWL.out]; omega)
            cases e9
            rw [HZ0.out, Nat.add_zero] at x0
            rw [HZQ.out] at xq
            have hwr : IntKind.i64.wrap ((q0 : Int) + 1) = (B1 : Int) := by rw [IntWalk.i64_in _ (by omega)]; omega
            have hn1 : ((B1 : Int) != (B1 : Int)) = false := by simp
            have hn2 : (a != a) = false := by simp
            have hn3 : (b != b) = false := by simp
            have hqB : (q0 : Int) < B1 := by omega
            have hqB0 : (0 : Int) < B1 := by omega
            clear hB1
            by_cases hr1 : 1 ≤ (q0 : Int)
            case neg =>
              go_wp2_with fail
              go_ret
              exact ⟨rfl, (HF56.out.below_of (Below.refl _ _) (by omega) (by omega))⟩
            have kx57_0 : W56.cell? ⟨W39.heap.size, 0, none⟩ = some (.int .i64 (n0 : Nat)) := Y56.out.cell 0 (by simp)
            have kx57_1 : W56.cell? ⟨W39.heap.size, 1, none⟩ = some ((.slice Ar R.length cr)) := Y56.out.cell 1 (by simp)
            go_wp2_with fail
            clear kx57_0 kx57_1
            clear hwr x0 xq
            refine (IsWalkProblem_any (n0 : Int) _ R _ _ _ SR56.out (by omega)).mono ?_
            rintro e W58 ⟨rfl, hb58⟩
            have hg58 := grown_below hb58; clear hb58
            have hs58 := hg58.size
            have HF58 := Lib.hid (HF56.out.still hg58); clear HF56
            have S58 := Lib.hid (ISS.still S56.out hg58 (by omega)); clear S56
            have X58 := Lib.hid (BoxN.still X56.out hg58); clear X56
            have Q158 := Lib.hid (IntS.still Q156.out hg58 (by omega)); clear Q156
            have Q258 := Lib.hid (IntS.still Q256.out hg58 (by omega)); clear Q256
            have SR58 := Lib.hid (ISS.still SR56.out hg58 (by omega)); clear SR56
            have Y58 := Lib.hid (BoxN.still Y56.out hg58); clear Y56
            have Q358 := Lib.hid (IntS.still Q356.out hg58 (by omega)); clear Q356
            have Q458 := Lib.hid (IntS.still Q456.out hg58 (by omega)); clear Q456
            by_cases hg : wkGood (n0 : Int) R = true
            case neg =>
              have hg' : wkGood (n0 : Int) R = false := by simpa using hg
              rw [hg']
              go_wp2_with fail
              go_ret
              exact ⟨rfl, (HF58.out.below_of (Below.refl _ _) (by omega) (by omega))⟩
            have HG := Lib.hid hg
            obtain ⟨n, hn, n1, n12⟩ := good_L hg
            have HGN := Lib.hid (show wkGood (n : Int) R = true by rw [← hn]; exact hg)
            have HN := Lib.hid hn
            rw [hg]
            clear hg hn
            by_cases h1 : 0 ≤ a
            case neg =>
              have kx59_0 : W58.cell? ⟨W39.heap.size, 0, none⟩ = some (.int .i64 (n0 : Nat)) := Y58.out.cell 0 (by simp)
              have kx59_1 : W58.cell? ⟨W39.heap.size, 1, none⟩ = some ((.slice Ar R.length cr)) := Y58.out.cell 1 (by simp)
              go_wp2_with fail
              go_ret
              exact ⟨rfl, (HF58.out.below_of (Below.refl _ _) (by omega) (by omega))⟩
            by_cases h2 : a < (n0 : Int)
            case neg =>
              have kx60_0 : W58.cell? ⟨W39.heap.size, 0, none⟩ = some (.int .i64 (n0 : Nat)) := Y58.out.cell 0 (by simp)
              have kx60_1 : W58.cell? ⟨W39.heap.size, 1, none⟩ = some ((.slice Ar R.length cr)) := Y58.out.cell 1 (by simp)
              go_wp2_with fail
              go_ret
              exact ⟨rfl, (HF58.out.below_of (Below.refl _ _) (by omega) (by omega))⟩
            by_cases h4 : b < (n0 : Int)
            case neg =>
              have kx61_0 : W58.cell? ⟨W39.heap.size, 0, none⟩ = some (.int .i64 (n0 : Nat)) := Y58.out.cell 0 (by simp)
              have kx61_1 : W58.cell? ⟨W39.heap.size, 1, none⟩ = some ((.slice Ar R.length cr)) := Y58.out.cell 1 (by simp)
              go_wp2_with fail
              go_ret
              exact ⟨rfl, (HF58.out.below_of (Below.refl _ _) (by omega) (by omega))⟩
            obtain ⟨x, rfl⟩ : ∃ x : Nat, a = x := ⟨a.toNat, by omega⟩
            obtain ⟨y, rfl⟩ : ∃ y : Nat, b = y := ⟨b.toNat, by omega⟩
            obtain ⟨q, hqq⟩ : ∃ q : Nat, q = q0 := ⟨_, rfl⟩
            subst hqq
            obtain rfl : n = n0 := by have := HN.out; omega
            have hxn : x < n := by omega
            have hyn : y < n := by omega
            have kx62_0 : W58.cell? ⟨W39.heap.size, 0, none⟩ = some (.int .i64 (n : Nat)) := Y58.out.cell 0 (by simp)
            have kx62_1 : W58.cell? ⟨W39.heap.size, 1, none⟩ = some ((.slice Ar R.length cr)) := Y58.out.cell 1 (by simp)
            go_wp2_with fail
            clear kx62_0 kx62_1
            refine (PowerWalk_any n _ R _ _ q _ SR58.out (by omega) HGN.out (by omega) (by omega)).mono ?_
            rintro e W63 ⟨r9, rfl, hr9, hb63⟩
            have hg63 := grown_below hb63; clear hb63
            have hs63 := hg63.size
            have HF63 := Lib.hid (HF58.out.still hg63); clear HF58
            have S63 := Lib.hid (ISS.still S58.out hg63 (by omega)); clear S58
            have X63 := Lib.hid (BoxN.still X58.out hg63); clear X58
            have Q163 := Lib.hid (IntS.still Q158.out hg63 (by omega)); clear Q158
            have Q263 := Lib.hid (IntS.still Q258.out hg63 (by omega)); clear Q258
            have SR63 := Lib.hid (ISS.still SR58.out hg63 (by omega)); clear SR58
            have Y63 := Lib.hid (BoxN.still Y58.out hg63); clear Y58
            have Q363 := Lib.hid (IntS.still Q358.out hg63 (by omega)); clear Q358
            have Q463 := Lib.hid (IntS.still Q458.out hg63 (by omega)); clear Q458
            have HP9 := Lib.hid hr9; clear hr9
            obtain ⟨Aw, cw, rfl, hcw, hdw⟩ := SS.dims HP9.out
            obtain ⟨pl, HPL⟩ : ∃ z, Hid ((powR n (may R) q n).length = z) := ⟨_, Lib.hid rfl⟩
            rw [HPL.out] at hcw HP9
            rw [HPL.out]
            go_upto_region 28 with (fail)
            refine nameC ?_
            intro W64 HW64
            have hg64 : W63.grownBy W64 none := by rw [HW64.out]; exact grown_alloc _ _
            have hs64 := hg64.size
            have HF64 := Lib.hid (HF63.out.still hg64); clear HF63
            have S64 := Lib.hid (ISS.still S63.out hg64 (by omega)); clear S63
            have X64 := Lib.hid (BoxN.still X63.out hg64); clear X63
            have Q164 := Lib.hid (IntS.still Q163.out hg64 (by omega)); clear Q163
            have Q264 := Lib.hid (IntS.still Q263.out hg64 (by omega)); clear Q263
            have SR64 := Lib.hid (ISS.still SR63.out hg64 (by omega)); clear SR63
            have Y64 := Lib.hid (BoxN.still Y63.out hg64); clear Y63
            have Q364 := Lib.hid (IntS.still Q363.out hg64 (by omega)); clear Q363
            have Q464 := Lib.hid (IntS.still Q463.out hg64 (by omega)); clear Q463
            have PW64 := Lib.hid (ISS.still HP9.out hg64 (by omega)); clear HP9
            have Z64 := Lib.hid (show BoxN W64 W63.heap.size #[.int .i64 (n : Nat), (.slice Aw pl cw)] 26 by rw [HW64.out]; first | exact BoxN.new _ _ _ | exact ((BoxN.new _ _ _).set 0 _).set 1 _)
            clear HW64
            by_cases hq199 : 199 < q
            case pos =>
              have hqi : (199 : Int) < (q : Int) := by omega
              go_wp2_with fail
              go_ret
              exact ⟨rfl, (HF64.out.below_of (Below.refl _ _) (by omega) (by omega))⟩
            have hqi : ¬ (199 : Int) < (q : Int) := by omega
            have HTW := Lib.hid (show hasArc (powR n (may R) q n) (x : Int) (y : Int) = true by rw [hasArc_pow hxn hyn, ← HTH.out, wbOk_w HGN.out hxn hyn (by omega)])
            have code_64 := Lib.hid (ByS.turned F1.out HF64.out (by omega) (by omega)); clear F1
            have more_64 := Lib.hid (ByS.turned F2.out HF64.out (by omega) (by omega)); clear F2
            have hbA64 : Below w.heap.size w W64 := (HF64.out.below_of (Below.refl _ _) (by omega) (by omega)); clear  HF64
            have kz0 : W64.cell? ⟨W63.heap.size, 0, none⟩ = some (.int .i64 (n : Nat)) := Z64.out.cell 0 (by simp)
            have kz1 : W64.cell? ⟨W63.heap.size, 1, none⟩ = some ((.slice Aw pl cw)) := Z64.out.cell 1 (by simp)
            go_wp2_with fail
            clear kz0 kz1
            go_loop [31, 236] (fun bv jv => ∃ (j : Nat) (c : Bool), j ≤ pl ∧ jv = .int .i64 j ∧ bv = .bool c ∧ Hid (c = hasArc ((powR n (may R) q n).take j) (x : Int) (y : Int))) (fun bv jv => pl - (intOf jv).toNat)
            case atStart => exact ⟨0, false, Nat.zero_le _, rfl, rfl, Lib.hid rfl⟩
            case round =>
              obtain ⟨j, c, hj, rfl, rfl, HCC⟩ := hrel
              by_cases hjl : j < pl
              case pos =>
                as_aux_lemma =>
                  have hji : (j : Int) < pl := by omega
                  obtain ⟨u, v, euv⟩ := powR_at (n := n) (k := q) (c := n) (m := may R) (j := j) (by rw [HPL.out]; exact hjl)
                  obtain ⟨bw, ow, uw, rfl, _, hbw, xw, huw⟩ := SS.opened PW64.out (j := j) (by rw [HPL.out]; exact hjl)
                  rw [euv] at huw
                  obtain ⟨Au, cu, rfl, hcu, hdu⟩ := huw.dims
                  obtain ⟨bu, ou, rfl, _, hbu, x0, _⟩ := huw.opened (j := 0) (by simp)
                  obtain ⟨_, _, e9, _, _, x1, _⟩ := huw.opened (j := 1) (by simp)
                  cases e9
                  rw [show nth [(u : Int), (v : Int)] 0 = (u : Int) from rfl, Nat.add_zero] at x0
                  rw [show nth [(u : Int), (v : Int)] 1 = (v : Int) from rfl] at x1
                  have hst := hasArc_take (l := powR n (may R) q n) (k := j) (by rw [HPL.out]; exact hjl) (x : Int) (y : Int)
                  rw [euv, show nth [(u : Int), (v : Int)] 0 = (u : Int) from rfl, show nth [(u : Int), (v : Int)] 1 = (v : Int) from rfl, ← HCC.out] at hst
                  have HST := Lib.hid hst
                  simp only [List.length_cons, List.length_nil, Nat.zero_add] at hcu xw
                  clear hst euv huw
                  obtain ⟨d1, HD1⟩ : ∃ d, Hid (((u : Int) == (x : Int)) = d) := ⟨_, Lib.hid rfl⟩
                  obtain ⟨d2, HD2⟩ : ∃ d, Hid (((v : Int) == (y : Int)) = d) := ⟨_, Lib.hid rfl⟩
                  have e1 := HD1.out
                  have e2 := HD2.out
                  rw [e1, e2] at HST
                  cases c <;> cases d1 <;> cases d2 <;>
                    (go_wp2_with fail
                     go_round
                     case rel => exact ⟨j + 1, _, by omega, by go_num, rfl, Lib.hid (by rw [HST.out]; rfl)⟩
                     case measure => simp [intOf]; omega)
              obtain rfl : j = pl := by omega
              have hji : ¬ (j : Int) < j := by omega
              have hcc : c = true := by rw [HCC.out, List.take_of_length_le (by rw [HPL.out]; exact Nat.le_refl _), HTW.out]
              subst hcc
              go_wp2_with fail
              go_ret
              exact ⟨rfl, hbA64⟩
  | true =>
    obtain ⟨n0, q0, e1, e2, hg0, hq1, hq60, hxl, hin, hwk, hso, hcp⟩ := fc_yes HOK.out
    rw [HXS.out] at hxl hin hwk
    rw [HXL.out] at hxl
    rw [HONE.out, HCV.out] at hcp
    obtain rfl : L = (n0 : Int) := e1
    obtain rfl : k = (q0 : Int) := e2
    obtain rfl : xl = q0 := hxl
    have HIN := Lib.hid hin; have HWK := Lib.hid hwk; have HG0 := Lib.hid hg0; have HSO := Lib.hid hso; have HCP := Lib.hid hcp
    clear hin hwk hg0 hso hcp
    rw [HXL.out] at hc4 hc5 Q111 Q211
    rw [HXL.out]
    have kx66_0 : W11.cell? ⟨W1.heap.size, 0, none⟩ = some (.int .i64 (n0 : Nat)) := X11.out.cell 0 (by simp)
    have kx66_1 : W11.cell? ⟨W1.heap.size, 1, none⟩ = some ((.slice As P.length cs)) := X11.out.cell 1 (by simp)
    go_wp2_with fail
    clear kx66_0 kx66_1
    refine (IsCycleLabeling_any n0 _ P _ _ _ xs _ _ _ S11.out (by omega) Q111.out (by omega) HG0.out HIN.out (by rw [HXL.out]; omega) (by rw [HXL.out]; omega)).mono ?_
    rintro e W67 ⟨rfl, hb67⟩
    have hg67 := grown_below hb67; clear hb67
    have hs67 := hg67.size
    have HF67 := Lib.hid (HF11.out.still hg67); clear HF11
    have S67 := Lib.hid (ISS.still S11.out hg67 (by omega)); clear S11
    have X67 := Lib.hid (BoxN.still X11.out hg67); clear X11
    have Q167 := Lib.hid (IntS.still Q111.out hg67 (by omega)); clear Q111
    have Q267 := Lib.hid (IntS.still Q211.out hg67 (by omega)); clear Q211
    rw [HWK.out]
    have kx68_0 : W67.cell? ⟨W1.heap.size, 0, none⟩ = some (.int .i64 (n0 : Nat)) := X67.out.cell 0 (by simp)
    have kx68_1 : W67.cell? ⟨W1.heap.size, 1, none⟩ = some ((.slice As P.length cs)) := X67.out.cell 1 (by simp)
    go_wp2_with fail
    clear kx68_0 kx68_1
    refine (SolvableLengths_any n0 _ P _ _ xl _ S67.out (by omega) HG0.out (by omega)).mono ?_
    rintro e W69 ⟨q9, rfl, hq9, hb69⟩
    have hg69 := grown_below hb69; clear hb69
    have hs69 := hg69.size
    have HF69 := Lib.hid (HF67.out.still hg69); clear HF67
    have S69 := Lib.hid (ISS.still S67.out hg69 (by omega)); clear S67
    have X69 := Lib.hid (BoxN.still X67.out hg69); clear X67
    have Q169 := Lib.hid (IntS.still Q167.out hg69 (by omega)); clear Q167
    have Q269 := Lib.hid (IntS.still Q267.out hg69 (by omega)); clear Q267
    have Q969 := Lib.hid hq9; clear hq9
    obtain ⟨A9, c9, rfl, hc9, hd9⟩ := IntS.dims Q969.out
    have hn1 : ((xl : Int) != (xl : Int)) = false := by simp
    go_wp2_with fail
    refine (pHas_any _ (solvL n0 (may P) xl) (xl : Int) _ _ _ Q969.out).mono ?_
    rintro e w' ⟨rfl, rfl⟩
    rw [decide_eq_true HSO.out]
    cases one with
    | false =>
      as_aux_lemma =>
        go_wp2_with fail
        refine (DrawBetween_any _ more lo2 hi2 _ (ByS.turned F2.out HF69.out (by omega) (by omega)) (by omega) HB2.out (by omega)).mono ?_
        rintro e W70 ⟨M, r2, R, a, b, r, rfl, M1, M13, a1, a13, b1, b14, r1, r200, hss2, hb70⟩
        have hg70 := grown_below hb70; clear hb70
        have hs70 := hg70.size
        have HF70 := Lib.hid (HF69.out.still hg70); clear HF69
        have S70 := Lib.hid (ISS.still S69.out hg70 (by omega)); clear S69
        have X70 := Lib.hid (BoxN.still X69.out hg70); clear X69
        have Q170 := Lib.hid (IntS.still Q169.out hg70 (by omega)); clear Q169
        have Q270 := Lib.hid (IntS.still Q269.out hg70 (by omega)); clear Q269
        have Q970 := Lib.hid (IntS.still Q969.out hg70 (by omega)); clear Q969
        have SR70 := Lib.hid hss2; clear hss2
        obtain ⟨Ar, cr, rfl, hcr, hdr⟩ := SS.dims SR70.out
        go_upto_region 18 with (fail)
        refine nameC ?_
        intro W71 HW71
        have hg71 : W70.grownBy W71 none := by rw [HW71.out]; exact grown_alloc _ _
        have hs71 := hg71.size
        have HF71 := Lib.hid (HF70.out.still hg71); clear HF70
        have S71 := Lib.hid (ISS.still S70.out hg71 (by omega)); clear S70
        have X71 := Lib.hid (BoxN.still X70.out hg71); clear X70
        have Q171 := Lib.hid (IntS.still Q170.out hg71 (by omega)); clear Q170
        have Q271 := Lib.hid (IntS.still Q270.out hg71 (by omega)); clear Q270
        have Q971 := Lib.hid (IntS.still Q970.out hg71 (by omega)); clear Q970
        have SR71 := Lib.hid (ISS.still SR70.out hg71 (by omega)); clear SR70
        have Y71 := Lib.hid (show BoxN W71 W70.heap.size #[.int .i64 M, (.slice Ar R.length cr)] 26 by rw [HW71.out]; first | exact BoxN.new _ _ _ | exact ((BoxN.new _ _ _).set 0 _).set 1 _)
        clear HW71
        have kx72_0 : W71.cell? ⟨W70.heap.size, 0, none⟩ = some (.int .i64 M) := Y71.out.cell 0 (by simp)
        have kx72_1 : W71.cell? ⟨W70.heap.size, 1, none⟩ = some ((.slice Ar R.length cr)) := Y71.out.cell 1 (by simp)
        go_wp2_with fail
        clear kx72_0 kx72_1
        refine (WalkBetween_impl M _ R _ _ a b r _ SR71.out (by omega) (by omega) (by omega)).mono ?_
        rintro e W73 ⟨q3, rfl, hq3, hb73⟩
        have hg73 := grown_below hb73; clear hb73
        have hs73 := hg73.size
        have HF73 := Lib.hid (HF71.out.still hg73); clear HF71
        have S73 := Lib.hid (ISS.still S71.out hg73 (by omega)); clear S71
        have X73 := Lib.hid (BoxN.still X71.out hg73); clear X71
        have Q173 := Lib.hid (IntS.still Q171.out hg73 (by omega)); clear Q171
        have Q273 := Lib.hid (IntS.still Q271.out hg73 (by omega)); clear Q271
        have Q973 := Lib.hid (IntS.still Q971.out hg73 (by omega)); clear Q971
        have SR73 := Lib.hid (ISS.still SR71.out hg73 (by omega)); clear SR71
        have Y73 := Lib.hid (BoxN.still Y71.out hg73); clear Y71
        have Q373 := Lib.hid hq3; clear hq3
        obtain ⟨A6, c6, rfl, hc6, hd6⟩ := IntS.dims Q373.out
        have kx74_0 : W73.cell? ⟨W70.heap.size, 0, none⟩ = some (.int .i64 M) := Y73.out.cell 0 (by simp)
        have kx74_1 : W73.cell? ⟨W70.heap.size, 1, none⟩ = some ((.slice Ar R.length cr)) := Y73.out.cell 1 (by simp)
        go_wp2_with fail
        clear kx74_0 kx74_1
        refine (WalkBetween_spec M _ R _ _ a b r _ SR73.out (by omega) (by omega) (by omega)).mono ?_
        rintro e W75 ⟨q4, rfl, hq4, hb75⟩
        have hg75 := grown_below hb75; clear hb75
        have hs75 := hg75.size
        have HF75 := Lib.hid (HF73.out.still hg75); clear HF73
        have S75 := Lib.hid (ISS.still S73.out hg75 (by omega)); clear S73
        have X75 := Lib.hid (BoxN.still X73.out hg75); clear X73
        have Q175 := Lib.hid (IntS.still Q173.out hg75 (by omega)); clear Q173
        have Q275 := Lib.hid (IntS.still Q273.out hg75 (by omega)); clear Q273
        have Q975 := Lib.hid (IntS.still Q973.out hg75 (by omega)); clear Q973
        have SR75 := Lib.hid (ISS.still SR73.out hg75 (by omega)); clear SR73
        have Y75 := Lib.hid (BoxN.still Y73.out hg75); clear Y73
        have Q375 := Lib.hid (IntS.still Q373.out hg75 (by omega)); clear Q373
        have Q475 := Lib.hid hq4; clear hq4
        obtain ⟨A7, c7, rfl, hc7, hd7⟩ := IntS.dims Q475.out
        obtain ⟨three, HTH⟩ : ∃ z, Hid (wbOk M R a b r = z) := ⟨_, Lib.hid rfl⟩
        obtain ⟨ws, HWS⟩ : ∃ z, Hid (wbOut M R a b r = z) := ⟨_, Lib.hid rfl⟩
        rw [HTH.out]
        rw [HWS.out] at Q375 Q475 hc6 hc7
        rw [HWS.out]
        obtain ⟨wl, HWL⟩ : ∃ x, Hid (ws.length = x) := ⟨_, Lib.hid rfl⟩
        have hne : (three != three) = false := by simp
        go_wp2_with fail
        refine (sameInts_same _ ws _ _ _ ws _ _ _ Q375.out (by omega) Q475.out (by omega) rfl).mono ?_
        rintro e W76 ⟨rfl, hb76⟩
        have hg76 := grown_below hb76; clear hb76
        have hs76 := hg76.size
        have HF76 := Lib.hid (HF75.out.still hg76); clear HF75
        have S76 := Lib.hid (ISS.still S75.out hg76 (by omega)); clear S75
        have X76 := Lib.hid (BoxN.still X75.out hg76); clear X75
        have Q176 := Lib.hid (IntS.still Q175.out hg76 (by omega)); clear Q175
        have Q276 := Lib.hid (IntS.still Q275.out hg76 (by omega)); clear Q275
        have Q976 := Lib.hid (IntS.still Q975.out hg76 (by omega)); clear Q975
        have SR76 := Lib.hid (ISS.still SR75.out hg76 (by omega)); clear SR75
        have Y76 := Lib.hid (BoxN.still Y75.out hg76); clear Y75
        have Q376 := Lib.hid (IntS.still Q375.out hg76 (by omega)); clear Q375
        have Q476 := Lib.hid (IntS.still Q475.out hg76 (by omega)); clear Q475
        cases three with
        | false =>
          as_aux_lemma =>
            by_cases hr1 : 1 ≤ r
            case neg =>
              go_wp2_with fail
              go_ret
              exact ⟨rfl, (HF76.out.below_of (Below.refl _ _) (by omega) (by omega))⟩
            have kx77_0 : W76.cell? ⟨W70.heap.size, 0, none⟩ = some (.int .i64 M) := Y76.out.cell 0 (by simp)
            have kx77_1 : W76.cell? ⟨W70.heap.size, 1, none⟩ = some ((.slice Ar R.length cr)) := Y76.out.cell 1 (by simp)
            go_wp2_with fail
            clear kx77_0 kx77_1
            refine (IsWalkProblem_any M _ R _ _ _ SR76.out (by omega)).mono ?_
            rintro e W78 ⟨rfl, hb78⟩
            have hg78 := grown_below hb78; clear hb78
            have hs78 := hg78.size
            have HF78 := Lib.hid (HF76.out.still hg78); clear HF76
            have S78 := Lib.hid (ISS.still S76.out hg78 (by omega)); clear S76
            have X78 := Lib.hid (BoxN.still X76.out hg78); clear X76
            have Q178 := Lib.hid (IntS.still Q176.out hg78 (by omega)); clear Q176
            have Q278 := Lib.hid (IntS.still Q276.out hg78 (by omega)); clear Q276
            have Q978 := Lib.hid (IntS.still Q976.out hg78 (by omega)); clear Q976
            have SR78 := Lib.hid (ISS.still SR76.out hg78 (by omega)); clear SR76
            have Y78 := Lib.hid (BoxN.still Y76.out hg78); clear Y76
            have Q378 := Lib.hid (IntS.still Q376.out hg78 (by omega)); clear Q376
            have Q478 := Lib.hid (IntS.still Q476.out hg78 (by omega)); clear Q476
            by_cases hg : wkGood M R = true
            case neg =>
              have hg' : wkGood M R = false := by simpa using hg
              rw [hg']
              go_wp2_with fail
              go_ret
              exact ⟨rfl, (HF78.out.below_of (Below.refl _ _) (by omega) (by omega))⟩
            have HG := Lib.hid hg
            obtain ⟨n, hn, n1, n12⟩ := good_L hg
            have HGN := Lib.hid (show wkGood (n : Int) R = true by rw [← hn]; exact hg)
            have HN := Lib.hid hn
            rw [hg]
            clear hg hn
            by_cases h1 : 0 ≤ a
            case neg =>
              have kx79_0 : W78.cell? ⟨W70.heap.size, 0, none⟩ = some (.int .i64 M) := Y78.out.cell 0 (by simp)
              have kx79_1 : W78.cell? ⟨W70.heap.size, 1, none⟩ = some ((.slice Ar R.length cr)) := Y78.out.cell 1 (by simp)
              go_wp2_with fail
              go_ret
              exact ⟨rfl, (HF78.out.below_of (Below.refl _ _) (by omega) (by omega))⟩
            by_cases h2 : a < M
            case neg =>
              have kx80_0 : W78.cell? ⟨W70.heap.size, 0, none⟩ = some (.int .i64 M) := Y78.out.cell 0 (by simp)
              have kx80_1 : W78.cell? ⟨W70.heap.size, 1, none⟩ = some ((.slice Ar R.length cr)) := Y78.out.cell 1 (by simp)
              go_wp2_with fail
              go_ret
              exact ⟨rfl, (HF78.out.below_of (Below.refl _ _) (by omega) (by omega))⟩
            by_cases h4 : b < M
            case neg =>
              have kx81_0 : W78.cell? ⟨W70.heap.size, 0, none⟩ = some (.int .i64 M) := Y78.out.cell 0 (by simp)
              have kx81_1 : W78.cell? ⟨W70.heap.size, 1, none⟩ = some ((.slice Ar R.length cr)) := Y78.out.cell 1 (by simp)
              go_wp2_with fail
              go_ret
              exact ⟨rfl, (HF78.out.below_of (Below.refl _ _) (by omega) (by omega))⟩
            obtain ⟨x, rfl⟩ : ∃ x : Nat, a = x := ⟨a.toNat, by omega⟩
            obtain ⟨y, rfl⟩ : ∃ y : Nat, b = y := ⟨b.toNat, by omega⟩
            obtain ⟨q, rfl⟩ : ∃ q : Nat, r = q := ⟨r.toNat, by omega⟩
            obtain rfl : M = (n : Int) := HN.out
            have hxn : x < n := by omega
            have hyn : y < n := by omega
            have kx82_0 : W78.cell? ⟨W70.heap.size, 0, none⟩ = some (.int .i64 (n : Nat)) := Y78.out.cell 0 (by simp)
            have kx82_1 : W78.cell? ⟨W70.heap.size, 1, none⟩ = some ((.slice Ar R.length cr)) := Y78.out.cell 1 (by simp)
            go_wp2_with fail
            clear kx82_0 kx82_1
            refine (PowerWalk_any n _ R _ _ q _ SR78.out (by omega) HGN.out (by omega) (by omega)).mono ?_
            rintro e W83 ⟨r9, rfl, hr9, hb83⟩
            have hg83 := grown_below hb83; clear hb83
            have hs83 := hg83.size
            have HF83 := Lib.hid (HF78.out.still hg83); clear HF78
            have S83 := Lib.hid (ISS.still S78.out hg83 (by omega)); clear S78
            have X83 := Lib.hid (BoxN.still X78.out hg83); clear X78
            have Q183 := Lib.hid (IntS.still Q178.out hg83 (by omega)); clear Q178
            have Q283 := Lib.hid (IntS.still Q278.out hg83 (by omega)); clear Q278
            have Q983 := Lib.hid (IntS.still Q978.out hg83 (by omega)); clear Q978
            have SR83 := Lib.hid (ISS.still SR78.out hg83 (by omega)); clear SR78
            have Y83 := Lib.hid (BoxN.still Y78.out hg83); clear Y78
            have Q383 := Lib.hid (IntS.still Q378.out hg83 (by omega)); clear Q378
            have Q483 := Lib.hid (IntS.still Q478.out hg83 (by omega)); clear Q478
            have HP9 := Lib.hid hr9; clear hr9
            obtain ⟨Aw, cw, rfl, hcw, hdw⟩ := SS.dims HP9.out
            obtain ⟨pl, HPL⟩ : ∃ z, Hid ((powR n (may R) q n).length = z) := ⟨_, Lib.hid rfl⟩
            rw [HPL.out] at hcw HP9
            rw [HPL.out]
            go_upto_region 28 with (fail)
            refine nameC ?_
            intro W84 HW84
            have hg84 : W83.grownBy W84 none := by rw [HW84.out]; exact grown_alloc _ _
            have hs84 := hg84.size
            have HF84 := Lib.hid (HF83.out.still hg84); clear HF83
            have S84 := Lib.hid (ISS.still S83.out hg84 (by omega)); clear S83
            have X84 := Lib.hid (BoxN.still X83.out hg84); clear X83
            have Q184 := Lib.hid (IntS.still Q183.out hg84 (by omega)); clear Q183
            have Q284 := Lib.hid (IntS.still Q283.out hg84 (by omega)); clear Q283
            have Q984 := Lib.hid (IntS.still Q983.out hg84 (by omega)); clear Q983
            have SR84 := Lib.hid (ISS.still SR83.out hg84 (by omega)); clear SR83
            have Y84 := Lib.hid (BoxN.still Y83.out hg84); clear Y83
            have Q384 := Lib.hid (IntS.still Q383.out hg84 (by omega)); clear Q383
            have Q484 := Lib.hid (IntS.still Q483.out hg84 (by omega)); clear Q483
            have PW84 := Lib.hid (ISS.still HP9.out hg84 (by omega)); clear HP9
            have Z84 := Lib.hid (show BoxN W84 W83.heap.size #[.int .i64 (n : Nat), (.slice Aw pl cw)] 26 by rw [HW84.out]; first | exact BoxN.new _ _ _ | exact ((BoxN.new _ _ _).set 0 _).set 1 _)
            clear HW84
            by_cases hq199 : 199 < q
            case pos =>
              have hqi : (199 : Int) < (q : Int) := by omega
              go_wp2_with fail
              go_ret
              exact ⟨rfl, (HF84.out.below_of (Below.refl _ _) (by omega) (by omega))⟩
            have hqi : ¬ (199 : Int) < (q : Int) := by omega
            have HTW := Lib.hid (show hasArc (powR n (may R) q n) (x : Int) (y : Int) = false by rw [hasArc_pow hxn hyn, ← HTH.out, wbOk_w HGN.out hxn hyn (by omega)])
            have code_84 := Lib.hid (ByS.turned F1.out HF84.out (by omega) (by omega)); clear F1
            have more_84 := Lib.hid (ByS.turned F2.out HF84.out (by omega) (by omega)); clear F2
            have hbA84 : Below w.heap.size w W84 := (HF84.out.below_of (Below.refl _ _) (by omega) (by omega)); clear  HF84
            have kz0 : W84.cell? ⟨W83.heap.size, 0, none⟩ = some (.int .i64 (n : Nat)) := Z84.out.cell 0 (by simp)
            have kz1 : W84.cell? ⟨W83.heap.size, 1, none⟩ = some ((.slice Aw pl cw)) := Z84.out.cell 1 (by simp)
            go_wp2_with fail
            clear kz0 kz1
            go_loop [31, 236] (fun bv jv => ∃ (j : Nat) (c : Bool), j ≤ pl ∧ jv = .int .i64 j ∧ bv = .bool c ∧ Hid (c = hasArc ((powR n (may R) q n).take j) (x : Int) (y : Int))) (fun bv jv => pl - (intOf jv).toNat)
            case atStart => exact ⟨0, false, Nat.zero_le _, rfl, rfl, Lib.hid rfl⟩
            case round =>
              obtain ⟨j, c, hj, rfl, rfl, HCC⟩ := hrel
              by_cases hjl : j < pl
              case pos =>
                as_aux_lemma =>
                  have hji : (j : Int) < pl := by omega
                  obtain ⟨u, v, euv⟩ := powR_at (n := n) (k := q) (c := n) (m := may R) (j := j) (by rw [HPL.out]; exact hjl)
                  obtain ⟨bw, ow, uw, rfl, _, hbw, xw, huw⟩ := SS.opened PW84.out (j := j) (by rw [HPL.out]; exact hjl)
                  rw [euv] at huw
                  obtain ⟨Au, cu, rfl, hcu, hdu⟩ := huw.dims
                  obtain ⟨bu, ou, rfl, _, hbu, x0, _⟩ := huw.opened (j := 0) (by simp)
                  obtain ⟨_, _, e9, _, _, x1, _⟩ := huw.opened (j := 1) (by simp)
                  cases e9
                  rw [show nth [(u : Int), (v : Int)] 0 = (u : Int) from rfl, Nat.add_zero] at x0
                  rw [show nth [(u : Int), (v : Int)] 1 = (v : Int) from rfl] at x1
                  have hst := hasArc_take (l := powR n (may R) q n) (k := j) (by rw [HPL.out]; exact hjl) (x : Int) (y : Int)
                  rw [euv, show nth [(u : Int), (v : Int)] 0 = (u : Int) from rfl, show nth [(u : Int), (v : Int)] 1 = (v : Int) from rfl, ← HCC.out] at hst
                  have HST := Lib.hid hst
                  simp only [List.length_cons, List.length_nil, Nat.zero_add] at hcu xw
                  clear hst euv huw
                  obtain ⟨d1, HD1⟩ : ∃ d, Hid (((u : Int) == (x : Int)) = d) := ⟨_, Lib.hid rfl⟩
                  obtain ⟨d2, HD2⟩ : ∃ d, Hid (((v : Int) == (y : Int)) = d) := ⟨_, Lib.hid rfl⟩
                  have e1 := HD1.out
                  have e2 := HD2.out
                  rw [e1, e2] at HST
                  cases c <;> cases d1 <;> cases d2 <;>
                    (go_wp2_with fail
                     go_round
                     case rel => exact ⟨j + 1, _, by omega, by go_num, rfl, Lib.hid (by rw [HST.out]; rfl)⟩
                     case measure => simp [intOf]; omega)
              obtain rfl : j = pl := by omega
              have hji : ¬ (j : Int) < j := by omega
              have hcc : c = false := by rw [HCC.out, List.take_of_length_le (by rw [HPL.out]; exact Nat.le_refl _), HTW.out]
              subst hcc
              go_wp2_with fail
              go_ret
              exact ⟨rfl, hbA84⟩
        | true =>
          as_aux_lemma =>
            obtain ⟨n0, q0, e1, e2, hg0, hq0, hwl, hin, hwk, hz0, hzq⟩ := wb_yes HTH.out
            rw [HWS.out] at hwl hin hwk hz0 hzq
            rw [HWL.out] at hwl
            obtain rfl : M = (n0 : Int) := e1
            obtain rfl : r = (q0 : Int) := e2
            obtain rfl : wl = q0 + 1 := hwl
            have HIN := Lib.hid hin; have HWK := Lib.hid hwk; have HG0 := Lib.hid hg0; have HZ0 := Lib.hid hz0; have HZQ := Lib.hid hzq
            clear hin hwk hg0 hz0 hzq
            obtain ⟨B1, HB9⟩ : ∃ z, Hid (q0 + 1 = z) := ⟨_, Lib.hid rfl⟩
            rw [HB9.out] at HWL
            rw [HWL.out] at hc6 hc7 Q376 Q476
            rw [HWL.out]
            have hB1 := HB9.out
            have kx86_0 : W76.cell? ⟨W70.heap.size, 0, none⟩ = some (.int .i64 (n0 : Nat)) := Y76.out.cell 0 (by simp)
            have kx86_1 : W76.cell? ⟨W70.heap.size, 1, none⟩ = some ((.slice Ar R.length cr)) := Y76.out.cell 1 (by simp)
            go_wp2_with fail
            clear kx86_0 kx86_1
            refine (IsPathLabeling_any n0 _ R _ _ _ ws _ _ _ SR76.out (by omega) Q376.out (by omega) HG0.out HIN.out (by rw [HWL.out]; omega) (by rw [HWL.out]; omega)).mono ?_
            rintro e W87 ⟨rfl, hb87⟩
            have hg87 := grown_below hb87; clear hb87
            have hs87 := hg87.size
            have HF87 := Lib.hid (HF76.out.still hg87); clear HF76
            have S87 := Lib.hid (ISS.still S76.out hg87 (by omega)); clear S76
            have X87 := Lib.hid (BoxN.still X76.out hg87); clear X76
            have Q187 := Lib.hid (IntS.still Q176.out hg87 (by omega)); clear Q176
            have Q287 := Lib.hid (IntS.still Q276.out hg87 (by omega)); clear Q276
            have Q987 := Lib.hid (IntS.still Q976.out hg87 (by omega)); clear Q976
            have SR87 := Lib.hid (ISS.still SR76.out hg87 (by omega)); clear SR76
            have Y87 := Lib.hid (BoxN.still Y76.out hg87); clear Y76
            have Q387 := Lib.hid (IntS.still Q376.out hg87 (by omega)); clear Q376
            have Q487 := Lib.hid (IntS.still Q476.out hg87 (by omega)); clear Q476
            rw [HWK.out]
            obtain ⟨bz, oz, rfl, _, _, x0, _⟩ := IntS.opened Q387.out (j := 0) (by rw [HWL.out]; omega)
            obtain ⟨_, _, e9, _, _, xq, _⟩ := IntS.opened Q387.out (j := q0) (by rw [HWL.out]; omega)
            cases e9
            rw [HZ0.out, Nat.add_zero] at x0
            rw [HZQ.out] at xq
            have hwr : IntKind.i64.wrap ((q0 : Int) + 1) = (B1 : Int) := by rw [IntWalk.i64_in _ (by omega)]; omega
            have hn1 : ((B1 : Int) != (B1 : Int)) = false := by simp
            have hn2 : (a != a) = false := by simp
            have hn3 : (b != b) = false := by simp
            have hqB : (q0 : Int) < B1 := by omega
            have hqB0 : (0 : Int) < B1 := by omega
            clear hB1
            by_cases hr1 : 1 ≤ (q0 : Int)
            case neg =>
              go_wp2_with fail
              go_ret
              exact ⟨rfl, (HF87.out.below_of (Below.refl _ _) (by omega) (by omega))⟩
            have kx88_0 : W87.cell? ⟨W70.heap.size, 0, none⟩ = some (.int .i64 (n0 : Nat)) := Y87.out.cell 0 (by simp)
            have kx88_1 : W87.cell? ⟨W70.heap.size, 1, none⟩ = some ((.slice Ar R.length cr)) := Y87.out.cell 1 (by simp)
            go_wp2_with fail
            clear kx88_0 kx88_1
            clear hwr x0 xq
            refine (IsWalkProblem_any (n0 : Int) _ R _ _ _ SR87.out (by omega)).mono ?_
            rintro e W89 ⟨rfl, hb89⟩
            have hg89 := grown_below hb89; clear hb89
            have hs89 := hg89.size
            have HF89 := Lib.hid (HF87.out.still hg89); clear HF87
            have S89 := Lib.hid (ISS.still S87.out hg89 (by omega)); clear S87
            have X89 := Lib.hid (BoxN.still X87.out hg89); clear X87
            have Q189 := Lib.hid (IntS.still Q187.out hg89 (by omega)); clear Q187
            have Q289 := Lib.hid (IntS.still Q287.out hg89 (by omega)); clear Q287
            have Q989 := Lib.hid (IntS.still Q987.out hg89 (by omega)); clear Q987
            have SR89 := Lib.hid (ISS.still SR87.out hg89 (by omega)); clear SR87
            have Y89 := Lib.hid (BoxN.still Y87.out hg89); clear Y87
            have Q389 := Lib.hid (IntS.still Q387.out hg89 (by omega)); clear Q387
            have Q489 := Lib.hid (IntS.still Q487.out hg89 (by omega)); clear Q487
            by_cases hg : wkGood (n0 : Int) R = true
            case neg =>
              have hg' : wkGood (n0 : Int) R = false := by simpa using hg
              rw [hg']
              go_wp2_with fail
              go_ret
              exact ⟨rfl, (HF89.out.below_of (Below.refl _ _) (by omega) (by omega))⟩
            have HG := Lib.hid hg
            obtain ⟨n, hn, n1, n12⟩ := good_L hg
            have HGN := Lib.hid (show wkGood (n : Int) R = true by rw [← hn]; exact hg)
            have HN := Lib.hid hn
            rw [hg]
            clear hg hn
            by_cases h1 : 0 ≤ a
            case neg =>
              have kx90_0 : W89.cell? ⟨W70.heap.size, 0, none⟩ = some (.int .i64 (n0 : Nat)) := Y89.out.cell 0 (by simp)
              have kx90_1 : W89.cell? ⟨W70.heap.size, 1, none⟩ = some ((.slice Ar R.length cr)) := Y89.out.cell 1 (by simp)
              go_wp2_with fail
              go_ret
              exact ⟨rfl, (HF89.out.below_of (Below.refl _ _) (by omega) (by omega))⟩
            by_cases h2 : a < (n0 : Int)
            case neg =>
              have kx91_0 : W89.cell? ⟨W70.heap.size, 0, none⟩ = some (.int .i64 (n0 : Nat)) := Y89.out.cell 0 (by simp)
              have kx91_1 : W89.cell? ⟨W70.heap.size, 1, none⟩ = some ((.slice Ar R.length cr)) := Y89.out.cell 1 (by simp)
              go_wp2_with fail
              go_ret
              exact ⟨rfl, (HF89.out.below_of (Below.refl _ _) (by omega) (by omega))⟩
            by_cases h4 : b < (n0 : Int)
            case neg =>
              have kx92_0 : W89.cell? ⟨W70.heap.size, 0, none⟩ = some (.int .i64 (n0 : Nat)) := Y89.out.cell 0 (by simp)
              have kx92_1 : W89.cell? ⟨W70.heap.size, 1, none⟩ = some ((.slice Ar R.length cr)) := Y89.out.cell 1 (by simp)
              go_wp2_with fail
              go_ret
              exact ⟨rfl, (HF89.out.below_of (Below.refl _ _) (by omega) (by omega))⟩
            obtain ⟨x, rfl⟩ : ∃ x : Nat, a = x := ⟨a.toNat, by omega⟩
            obtain ⟨y, rfl⟩ : ∃ y : Nat, b = y := ⟨b.toNat, by omega⟩
            obtain ⟨q, hqq⟩ : ∃ q : Nat, q = q0 := ⟨_, rfl⟩
            subst hqq
            obtain rfl : n = n0 := by have := HN.out; omega
            have hxn : x < n := by omega
            have hyn : y < n := by omega
            have kx93_0 : W89.cell? ⟨W70.heap.size, 0, none⟩ = some (.int .i64 (n : Nat)) := Y89.out.cell 0 (by simp)
            have kx93_1 : W89.cell? ⟨W70.heap.size, 1, none⟩ = some ((.slice Ar R.length cr)) := Y89.out.cell 1 (by simp)
            go_wp2_with fail
            clear kx93_0 kx93_1
            refine (PowerWalk_any n _ R _ _ q _ SR89.out (by omega) HGN.out (by omega) (by omega)).mono ?_
            rintro e W94 ⟨r9, rfl, hr9, hb94⟩
            have hg94 := grown_below hb94; clear hb94
            have hs94 := hg94.size
            have HF94 := Lib.hid (HF89.out.still hg94); clear HF89
            have S94 := Lib.hid (ISS.still S89.out hg94 (by omega)); clear S89
            have X94 := Lib.hid (BoxN.still X89.out hg94); clear X89
            have Q194 := Lib.hid (IntS.still Q189.out hg94 (by omega)); clear Q189
            have Q294 := Lib.hid (IntS.still Q289.out hg94 (by omega)); clear Q289
            have Q994 := Lib.hid (IntS.still Q989.out hg94 (by omega)); clear Q989
            have SR94 := Lib.hid (ISS.still SR89.out hg94 (by omega)); clear SR89
            have Y94 := Lib.hid (BoxN.still Y89.out hg94); clear Y89
            have Q394 := Lib.hid (IntS.still Q389.out hg94 (by omega)); clear Q389
            have Q494 := Lib.hid (IntS.still Q489.out hg94 (by omega)); clear Q489
            have HP9 := Lib.hid hr9; clear hr9
            obtain ⟨Aw, cw, rfl, hcw, hdw⟩ := SS.dims HP9.out
            obtain ⟨pl, HPL⟩ : ∃ z, Hid ((powR n (may R) q n).length = z) := ⟨_, Lib.hid rfl⟩
            rw [HPL.out] at hcw HP9
            rw [HPL.out]
            go_upto_region 28 with (fail)
            refine nameC ?_
            intro W95 HW95
            have hg95 : W94.grownBy W95 none := by rw [HW95.out]; exact grown_alloc _ _
            have hs95 := hg95.size
            have HF95 := Lib.hid (HF94.out.still hg95); clear HF94
            have S95 := Lib.hid (ISS.still S94.out hg95 (by omega)); clear S94
            have X95 := Lib.hid (BoxN.still X94.out hg95); clear X94
            have Q195 := Lib.hid (IntS.still Q194.out hg95 (by omega)); clear Q194
            have Q295 := Lib.hid (IntS.still Q294.out hg95 (by omega)); clear Q294
            have Q995 := Lib.hid (IntS.still Q994.out hg95 (by omega)); clear Q994
            have SR95 := Lib.hid (ISS.still SR94.out hg95 (by omega)); clear SR94
            have Y95 := Lib.hid (BoxN.still Y94.out hg95); clear Y94
            have Q395 := Lib.hid (IntS.still Q394.out hg95 (by omega)); clear Q394
            have Q495 := Lib.hid (IntS.still Q494.out hg95 (by omega)); clear Q494
            have PW95 := Lib.hid (ISS.still HP9.out hg95 (by omega)); clear HP9
            have Z95 := Lib.hid (show BoxN W95 W94.heap.size #[.int .i64 (n : Nat), (.slice Aw pl cw)] 26 by rw [HW95.out]; first | exact BoxN.new _ _ _ | exact ((BoxN.new _ _ _).set 0 _).set 1 _)
            clear HW95
            by_cases hq199 : 199 < q
            case pos =>
              have hqi : (199 : Int) < (q : Int) := by omega
              go_wp2_with fail
              go_ret
              exact ⟨rfl, (HF95.out.below_of (Below.refl _ _) (by omega) (by omega))⟩
            have hqi : ¬ (199 : Int) < (q : Int) := by omega
            have HTW := Lib.hid (show hasArc (powR n (may R) q n) (x : Int) (y : Int) = true by rw [hasArc_pow hxn hyn, ← HTH.out, wbOk_w HGN.out hxn hyn (by omega)])
            have code_95 := Lib.hid (ByS.turned F1.out HF95.out (by omega) (by omega)); clear F1
            have more_95 := Lib.hid (ByS.turned F2.out HF95.out (by omega) (by omega)); clear F2
            have hbA95 : Below w.heap.size w W95 := (HF95.out.below_of (Below.refl _ _) (by omega) (by omega)); clear  HF95
            have kz0 : W95.cell? ⟨W94.heap.size, 0, none⟩ = some (.int .i64 (n : Nat)) := Z95.out.cell 0 (by simp)
            have kz1 : W95.cell? ⟨W94.heap.size, 1, none⟩ = some ((.slice Aw pl cw)) := Z95.out.cell 1 (by simp)
            go_wp2_with fail
            clear kz0 kz1
            go_loop [31, 236] (fun bv jv => ∃ (j : Nat) (c : Bool), j ≤ pl ∧ jv = .int .i64 j ∧ bv = .bool c ∧ Hid (c = hasArc ((powR n (may R) q n).take j) (x : Int) (y : Int))) (fun bv jv => pl - (intOf jv).toNat)
            case atStart => exact ⟨0, false, Nat.zero_le _, rfl, rfl, Lib.hid rfl⟩
            case round =>
              obtain ⟨j, c, hj, rfl, rfl, HCC⟩ := hrel
              by_cases hjl : j < pl
              case pos =>
                as_aux_lemma =>
                  have hji : (j : Int) < pl := by omega
                  obtain ⟨u, v, euv⟩ := powR_at (n := n) (k := q) (c := n) (m := may R) (j := j) (by rw [HPL.out]; exact hjl)
                  obtain ⟨bw, ow, uw, rfl, _, hbw, xw, huw⟩ := SS.opened PW95.out (j := j) (by rw [HPL.out]; exact hjl)
                  rw [euv] at huw
                  obtain ⟨Au, cu, rfl, hcu, hdu⟩ := huw.dims
                  obtain ⟨bu, ou, rfl, _, hbu, x0, _⟩ := huw.opened (j := 0) (by simp)
                  obtain ⟨_, _, e9, _, _, x1, _⟩ := huw.opened (j := 1) (by simp)
                  cases e9
                  rw [show nth [(u : Int), (v : Int)] 0 = (u : Int) from rfl, Nat.add_zero] at x0
                  rw [show nth [(u : Int), (v : Int)] 1 = (v : Int) from rfl] at x1
                  have hst := hasArc_take (l := powR n (may R) q n) (k := j) (by rw [HPL.out]; exact hjl) (x : Int) (y : Int)
                  rw [euv, show nth [(u : Int), (v : Int)] 0 = (u : Int) from rfl, show nth [(u : Int), (v : Int)] 1 = (v : Int) from rfl, ← HCC.out] at hst
                  have HST := Lib.hid hst
                  simp only [List.length_cons, List.length_nil, Nat.zero_add] at hcu xw
                  clear hst euv huw
                  obtain ⟨d1, HD1⟩ : ∃ d, Hid (((u : Int) == (x : Int)) = d) := ⟨_, Lib.hid rfl⟩
                  obtain ⟨d2, HD2⟩ : ∃ d, Hid (((v : Int) == (y : Int)) = d) := ⟨_, Lib.hid rfl⟩
                  have e1 := HD1.out
                  have e2 := HD2.out
                  rw [e1, e2] at HST
                  cases c <;> cases d1 <;> cases d2 <;>
                    (go_wp2_with fail
                     go_round
                     case rel => exact ⟨j + 1, _, by omega, by go_num, rfl, Lib.hid (by rw [HST.out]; rfl)⟩
                     case measure => simp [intOf]; omega)
              obtain rfl : j = pl := by omega
              have hji : ¬ (j : Int) < j := by omega
              have hcc : c = true := by rw [HCC.out, List.take_of_length_le (by rw [HPL.out]; exact Nat.le_refl _), HTW.out]
              subst hcc
              go_wp2_with fail
              go_ret
              exact ⟨rfl, hbA95⟩
    | true =>
      as_aux_lemma =>
        have hcp := HCP.out rfl
        have hcpn : ¬ cv < 1 := by omega
        go_wp2_with fail
        refine (DrawBetween_any _ more lo2 hi2 _ (ByS.turned F2.out HF69.out (by omega) (by omega)) (by omega) HB2.out (by omega)).mono ?_
        rintro e W97 ⟨M, r2, R, a, b, r, rfl, M1, M13, a1, a13, b1, b14, r1, r200, hss2, hb97⟩
        have hg97 := grown_below hb97; clear hb97
        have hs97 := hg97.size
        have HF97 := Lib.hid (HF69.out.still hg97); clear HF69
        have S97 := Lib.hid (ISS.still S69.out hg97 (by omega)); clear S69
        have X97 := Lib.hid (BoxN.still X69.out hg97); clear X69
        have Q197 := Lib.hid (IntS.still Q169.out hg97 (by omega)); clear Q169
        have Q297 := Lib.hid (IntS.still Q269.out hg97 (by omega)); clear Q269
        have Q997 := Lib.hid (IntS.still Q969.out hg97 (by omega)); clear Q969
        have SR97 := Lib.hid hss2; clear hss2
        obtain ⟨Ar, cr, rfl, hcr, hdr⟩ := SS.dims SR97.out
        go_upto_region 18 with (fail)
        refine nameC ?_
        intro W98 HW98
        have hg98 : W97.grownBy W98 none := by rw [HW98.out]; exact grown_alloc _ _
        have hs98 := hg98.size
        have HF98 := Lib.hid (HF97.out.still hg98); clear HF97
        have S98 := Lib.hid (ISS.still S97.out hg98 (by omega)); clear S97
        have X98 := Lib.hid (BoxN.still X97.out hg98); clear X97
        have Q198 := Lib.hid (IntS.still Q197.out hg98 (by omega)); clear Q197
        have Q298 := Lib.hid (IntS.still Q297.out hg98 (by omega)); clear Q297
        have Q998 := Lib.hid (IntS.still Q997.out hg98 (by omega)); clear Q997
        have SR98 := Lib.hid (ISS.still SR97.out hg98 (by omega)); clear SR97
        have Y98 := Lib.hid (show BoxN W98 W97.heap.size #[.int .i64 M, (.slice Ar R.length cr)] 26 by rw [HW98.out]; first | exact BoxN.new _ _ _ | exact ((BoxN.new _ _ _).set 0 _).set 1 _)
        clear HW98
        have kx99_0 : W98.cell? ⟨W97.heap.size, 0, none⟩ = some (.int .i64 M) := Y98.out.cell 0 (by simp)
        have kx99_1 : W98.cell? ⟨W97.heap.size, 1, none⟩ = some ((.slice Ar R.length cr)) := Y98.out.cell 1 (by simp)
        go_wp2_with fail
        clear kx99_0 kx99_1
        refine (WalkBetween_impl M _ R _ _ a b r _ SR98.out (by omega) (by omega) (by omega)).mono ?_
        rintro e W100 ⟨q3, rfl, hq3, hb100⟩
        have hg100 := grown_below hb100; clear hb100
        have hs100 := hg100.size
        have HF100 := Lib.hid (HF98.out.still hg100); clear HF98
        have S100 := Lib.hid (ISS.still S98.out hg100 (by omega)); clear S98
        have X100 := Lib.hid (BoxN.still X98.out hg100); clear X98
        have Q1100 := Lib.hid (IntS.still Q198.out hg100 (by omega)); clear Q198
        have Q2100 := Lib.hid (IntS.still Q298.out hg100 (by omega)); clear Q298
        have Q9100 := Lib.hid (IntS.still Q998.out hg100 (by omega)); clear Q998
        have SR100 := Lib.hid (ISS.still SR98.out hg100 (by omega)); clear SR98
        have Y100 := Lib.hid (BoxN.still Y98.out hg100); clear Y98
        have Q3100 := Lib.hid hq3; clear hq3
        obtain ⟨A6, c6, rfl, hc6, hd6⟩ := IntS.dims Q3100.out
        have kx101_0 : W100.cell? ⟨W97.heap.size, 0, none⟩ = some (.int .i64 M) := Y100.out.cell 0 (by simp)
        have kx101_1 : W100.cell? ⟨W97.heap.size, 1, none⟩ = some ((.slice Ar R.length cr)) := Y100.out.cell 1 (by simp)
        go_wp2_with fail
        clear kx101_0 kx101_1
        refine (WalkBetween_spec M _ R _ _ a b r _ SR100.out (by omega) (by omega) (by omega)).mono ?_
        rintro e W102 ⟨q4, rfl, hq4, hb102⟩
        have hg102 := grown_below hb102; clear hb102
        have hs102 := hg102.size
        have HF102 := Lib.hid (HF100.out.still hg102); clear HF100
        have S102 := Lib.hid (ISS.still S100.out hg102 (by omega)); clear S100
        have X102 := Lib.hid (BoxN.still X100.out hg102); clear X100
        have Q1102 := Lib.hid (IntS.still Q1100.out hg102 (by omega)); clear Q1100
        have Q2102 := Lib.hid (IntS.still Q2100.out hg102 (by omega)); clear Q2100
        have Q9102 := Lib.hid (IntS.still Q9100.out hg102 (by omega)); clear Q9100
        have SR102 := Lib.hid (ISS.still SR100.out hg102 (by omega)); clear SR100
        have Y102 := Lib.hid (BoxN.still Y100.out hg102); clear Y100
        have Q3102 := Lib.hid (IntS.still Q3100.out hg102 (by omega)); clear Q3100
        have Q4102 := Lib.hid hq4; clear hq4
        obtain ⟨A7, c7, rfl, hc7, hd7⟩ := IntS.dims Q4102.out
        obtain ⟨three, HTH⟩ : ∃ z, Hid (wbOk M R a b r = z) := ⟨_, Lib.hid rfl⟩
        obtain ⟨ws, HWS⟩ : ∃ z, Hid (wbOut M R a b r = z) := ⟨_, Lib.hid rfl⟩
        rw [HTH.out]
        rw [HWS.out] at Q3102 Q4102 hc6 hc7
        rw [HWS.out]
        obtain ⟨wl, HWL⟩ : ∃ x, Hid (ws.length = x) := ⟨_, Lib.hid rfl⟩
        have hne : (three != three) = false := by simp
        go_wp2_with fail
        refine (sameInts_same _ ws _ _ _ ws _ _ _ Q3102.out (by omega) Q4102.out (by omega) rfl).mono ?_
        rintro e W103 ⟨rfl, hb103⟩
        have hg103 := grown_below hb103; clear hb103
        have hs103 := hg103.size
        have HF103 := Lib.hid (HF102.out.still hg103); clear HF102
        have S103 := Lib.hid (ISS.still S102.out hg103 (by omega)); clear S102
        have X103 := Lib.hid (BoxN.still X102.out hg103); clear X102
        have Q1103 := Lib.hid (IntS.still Q1102.out hg103 (by omega)); clear Q1102
        have Q2103 := Lib.hid (IntS.still Q2102.out hg103 (by omega)); clear Q2102
        have Q9103 := Lib.hid (IntS.still Q9102.out hg103 (by omega)); clear Q9102
        have SR103 := Lib.hid (ISS.still SR102.out hg103 (by omega)); clear SR102
        have Y103 := Lib.hid (BoxN.still Y102.out hg103); clear Y102
        have Q3103 := Lib.hid (IntS.still Q3102.out hg103 (by omega)); clear Q3102
        have Q4103 := Lib.hid (IntS.still Q4102.out hg103 (by omega)); clear Q4102
        cases three with
        | false =>
          as_aux_lemma =>
            by_cases hr1 : 1 ≤ r
            case neg =>
              go_wp2_with fail
              go_ret
              exact ⟨rfl, (HF103.out.below_of (Below.refl _ _) (by omega) (by omega))⟩
            have kx104_0 : W103.cell? ⟨W97.heap.size, 0, none⟩ = some (.int .i64 M) := Y103.out.cell 0 (by simp)
            have kx104_1 : W103.cell? ⟨W97.heap.size, 1, none⟩ = some ((.slice Ar R.length cr)) := Y103.out.cell 1 (by simp)
            go_wp2_with fail
            clear kx104_0 kx104_1
            refine (IsWalkProblem_any M _ R _ _ _ SR103.out (by omega)).mono ?_
            rintro e W105 ⟨rfl, hb105⟩
            have hg105 := grown_below hb105; clear hb105
            have hs105 := hg105.size
            have HF105 := Lib.hid (HF103.out.still hg105); clear HF103
            have S105 := Lib.hid (ISS.still S103.out hg105 (by omega)); clear S103
            have X105 := Lib.hid (BoxN.still X103.out hg105); clear X103
            have Q1105 := Lib.hid (IntS.still Q1103.out hg105 (by omega)); clear Q1103
            have Q2105 := Lib.hid (IntS.still Q2103.out hg105 (by omega)); clear Q2103
            have Q9105 := Lib.hid (IntS.still Q9103.out hg105 (by omega)); clear Q9103
            have SR105 := Lib.hid (ISS.still SR103.out hg105 (by omega)); clear SR103
            have Y105 := Lib.hid (BoxN.still Y103.out hg105); clear Y103
            have Q3105 := Lib.hid (IntS.still Q3103.out hg105 (by omega)); clear Q3103
            have Q4105 := Lib.hid (IntS.still Q4103.out hg105 (by omega)); clear Q4103
            by_cases hg : wkGood M R = true
            case neg =>
              have hg' : wkGood M R = false := by simpa using hg
              rw [hg']
              go_wp2_with fail
              go_ret
              exact ⟨rfl, (HF105.out.below_of (Below.refl _ _) (by omega) (by omega))⟩
            have HG := Lib.hid hg
            obtain ⟨n, hn, n1, n12⟩ := good_L hg
            have HGN := Lib.hid (show wkGood (n : Int) R = true by rw [← hn]; exact hg)
            have HN := Lib.hid hn
            rw [hg]
            clear hg hn
            by_cases h1 : 0 ≤ a
            case neg =>
              have kx106_0 : W105.cell? ⟨W97.heap.size, 0, none⟩ = some (.int .i64 M) := Y105.out.cell 0 (by simp)
              have kx106_1 : W105.cell? ⟨W97.heap.size, 1, none⟩ = some ((.slice Ar R.length cr)) := Y105.out.cell 1 (by simp)
              go_wp2_with fail
              go_ret
              exact ⟨rfl, (HF105.out.below_of (Below.refl _ _) (by omega) (by omega))⟩
            by_cases h2 : a < M
            case neg =>
              have kx107_0 : W105.cell? ⟨W97.heap.size, 0, none⟩ = some (.int .i64 M) := Y105.out.cell 0 (by simp)
              have kx107_1 : W105.cell? ⟨W97.heap.size, 1, none⟩ = some ((.slice Ar R.length cr)) := Y105.out.cell 1 (by simp)
              go_wp2_with fail
              go_ret
              exact ⟨rfl, (HF105.out.below_of (Below.refl _ _) (by omega) (by omega))⟩
            by_cases h4 : b < M
            case neg =>
              have kx108_0 : W105.cell? ⟨W97.heap.size, 0, none⟩ = some (.int .i64 M) := Y105.out.cell 0 (by simp)
              have kx108_1 : W105.cell? ⟨W97.heap.size, 1, none⟩ = some ((.slice Ar R.length cr)) := Y105.out.cell 1 (by simp)
              go_wp2_with fail
              go_ret
              exact ⟨rfl, (HF105.out.below_of (Below.refl _ _) (by omega) (by omega))⟩
            obtain ⟨x, rfl⟩ : ∃ x : Nat, a = x := ⟨a.toNat, by omega⟩
            obtain ⟨y, rfl⟩ : ∃ y : Nat, b = y := ⟨b.toNat, by omega⟩
            obtain ⟨q, rfl⟩ : ∃ q : Nat, r = q := ⟨r.toNat, by omega⟩
            obtain rfl : M = (n : Int) := HN.out
            have hxn : x < n := by omega
            have hyn : y < n := by omega
            have kx109_0 : W105.cell? ⟨W97.heap.size, 0, none⟩ = some (.int .i64 (n : Nat)) := Y105.out.cell 0 (by simp)
            have kx109_1 : W105.cell? ⟨W97.heap.size, 1, none⟩ = some ((.slice Ar R.length cr)) := Y105.out.cell 1 (by simp)
            go_wp2_with fail
            clear kx109_0 kx109_1
            refine (PowerWalk_any n _ R _ _ q _ SR105.out (by omega) HGN.out (by omega) (by omega)).mono ?_
            rintro e W110 ⟨r9, rfl, hr9, hb110⟩
            have hg110 := grown_below hb110; clear hb110
            have hs110 := hg110.size
            have HF110 := Lib.hid (HF105.out.still hg110); clear HF105
            have S110 := Lib.hid (ISS.still S105.out hg110 (by omega)); clear S105
            have X110 := Lib.hid (BoxN.still X105.out hg110); clear X105
            have Q1110 := Lib.hid (IntS.still Q1105.out hg110 (by omega)); clear Q1105
            have Q2110 := Lib.hid (IntS.still Q2105.out hg110 (by omega)); clear Q2105
            have Q9110 := Lib.hid (IntS.still Q9105.out hg110 (by omega)); clear Q9105
            have SR110 := Lib.hid (ISS.still SR105.out hg110 (by omega)); clear SR105
            have Y110 := Lib.hid (BoxN.still Y105.out hg110); clear Y105
            have Q3110 := Lib.hid (IntS.still Q3105.out hg110 (by omega)); clear Q3105
            have Q4110 := Lib.hid (IntS.still Q4105.out hg110 (by omega)); clear Q4105
            have HP9 := Lib.hid hr9; clear hr9
            obtain ⟨Aw, cw, rfl, hcw, hdw⟩ := SS.dims HP9.out
            obtain ⟨pl, HPL⟩ : ∃ z, Hid ((powR n (may R) q n).length = z) := ⟨_, Lib.hid rfl⟩
            rw [HPL.out] at hcw HP9
            rw [HPL.out]
            go_upto_region 28 with (fail)
            refine nameC ?_
            intro W111 HW111
            have hg111 : W110.grownBy W111 none := by rw [HW111.out]; exact grown_alloc _ _
            have hs111 := hg111.size
            have HF111 := Lib.hid (HF110.out.still hg111); clear HF110
            have S111 := Lib.hid (ISS.still S110.out hg111 (by omega)); clear S110
            have X111 := Lib.hid (BoxN.still X110.out hg111); clear X110
            have Q1111 := Lib.hid (IntS.still Q1110.out hg111 (by omega)); clear Q1110
            have Q2111 := Lib.hid (IntS.still Q2110.out hg111 (by omega)); clear Q2110
            have Q9111 := Lib.hid (IntS.still Q9110.out hg111 (by omega)); clear Q9110
            have SR111 := Lib.hid (ISS.still SR110.out hg111 (by omega)); clear SR110
            have Y111 := Lib.hid (BoxN.still Y110.out hg111); clear Y110
            have Q3111 := Lib.hid (IntS.still Q3110.out hg111 (by omega)); clear Q3110
            have Q4111 := Lib.hid (IntS.still Q4110.out hg111 (by omega)); clear Q4110
            have PW111 := Lib.hid (ISS.still HP9.out hg111 (by omega)); clear HP9
            have Z111 := Lib.hid (show BoxN W111 W110.heap.size #[.int .i64 (n : Nat), (.slice Aw pl cw)] 26 by rw [HW111.out]; first | exact BoxN.new _ _ _ | exact ((BoxN.new _ _ _).set 0 _).set 1 _)
            clear HW111
            by_cases hq199 : 199 < q
            case pos =>
              have hqi : (199 : Int) < (q : Int) := by omega
              go_wp2_with fail
              go_ret
              exact ⟨rfl, (HF111.out.below_of (Below.refl _ _) (by omega) (by omega))⟩
            have hqi : ¬ (199 : Int) < (q : Int) := by omega
            have HTW := Lib.hid (show hasArc (powR n (may R) q n) (x : Int) (y : Int) = false by rw [hasArc_pow hxn hyn, ← HTH.out, wbOk_w HGN.out hxn hyn (by omega)])
            have code_111 := Lib.hid (ByS.turned F1.out HF111.out (by omega) (by omega)); clear F1
            have more_111 := Lib.hid (ByS.turned F2.out HF111.out (by omega) (by omega)); clear F2
            have hbA111 : Below w.heap.size w W111 := (HF111.out.below_of (Below.refl _ _) (by omega) (by omega)); clear  HF111
            have kz0 : W111.cell? ⟨W110.heap.size, 0, none⟩ = some (.int .i64 (n : Nat)) := Z111.out.cell 0 (by simp)
            have kz1 : W111.cell? ⟨W110.heap.size, 1, none⟩ = some ((.slice Aw pl cw)) := Z111.out.cell 1 (by simp)
            go_wp2_with fail
            clear kz0 kz1
            go_loop [31, 236] (fun bv jv => ∃ (j : Nat) (c : Bool), j ≤ pl ∧ jv = .int .i64 j ∧ bv = .bool c ∧ Hid (c = hasArc ((powR n (may R) q n).take j) (x : Int) (y : Int))) (fun bv jv => pl - (intOf jv).toNat)
            case atStart => exact ⟨0, false, Nat.zero_le _, rfl, rfl, Lib.hid rfl⟩
            case round =>
              obtain ⟨j, c, hj, rfl, rfl, HCC⟩ := hrel
              by_cases hjl : j < pl
              case pos =>
                as_aux_lemma =>
                  have hji : (j : Int) < pl := by omega
                  obtain ⟨u, v, euv⟩ := powR_at (n := n) (k := q) (c := n) (m := may R) (j := j) (by rw [HPL.out]; exact hjl)
                  obtain ⟨bw, ow, uw, rfl, _, hbw, xw, huw⟩ := SS.opened PW111.out (j := j) (by rw [HPL.out]; exact hjl)
                  rw [euv] at huw
                  obtain ⟨Au, cu, rfl, hcu, hdu⟩ := huw.dims
                  obtain ⟨bu, ou, rfl, _, hbu, x0, _⟩ := huw.opened (j := 0) (by simp)
                  obtain ⟨_, _, e9, _, _, x1, _⟩ := huw.opened (j := 1) (by simp)
                  cases e9
                  rw [show nth [(u : Int), (v : Int)] 0 = (u : Int) from rfl, Nat.add_zero] at x0
                  rw [show nth [(u : Int), (v : Int)] 1 = (v : Int) from rfl] at x1
                  have hst := hasArc_take (l := powR n (may R) q n) (k := j) (by rw [HPL.out]; exact hjl) (x : Int) (y : Int)
                  rw [euv, show nth [(u : Int), (v : Int)] 0 = (u : Int) from rfl, show nth [(u : Int), (v : Int)] 1 = (v : Int) from rfl, ← HCC.out] at hst
                  have HST := Lib.hid hst
                  simp only [List.length_cons, List.length_nil, Nat.zero_add] at hcu xw
                  clear hst euv huw
                  obtain ⟨d1, HD1⟩ : ∃ d, Hid (((u : Int) == (x : Int)) = d) := ⟨_, Lib.hid rfl⟩
                  obtain ⟨d2, HD2⟩ : ∃ d, Hid (((v : Int) == (y : Int)) = d) := ⟨_, Lib.hid rfl⟩
                  have e1 := HD1.out
                  have e2 := HD2.out
                  rw [e1, e2] at HST
                  cases c <;> cases d1 <;> cases d2 <;>
                    (go_wp2_with fail
                     go_round
                     case rel => exact ⟨j + 1, _, by omega, by go_num, rfl, Lib.hid (by rw [HST.out]; rfl)⟩
                     case measure => simp [intOf]; omega)
              obtain rfl : j = pl := by omega
              have hji : ¬ (j : Int) < j := by omega
              have hcc : c = false := by rw [HCC.out, List.take_of_length_le (by rw [HPL.out]; exact Nat.le_refl _), HTW.out]
              subst hcc
              go_wp2_with fail
              go_ret
              exact ⟨rfl, hbA111⟩
        | true =>
          as_aux_lemma =>
            obtain ⟨n0, q0, e1, e2, hg0, hq0, hwl, hin, hwk, hz0, hzq⟩ := wb_yes HTH.out
            rw [HWS.out] at hwl hin hwk hz0 hzq
            rw [HWL.out] at hwl
            obtain rfl : M = (n0 : Int) := e1
            obtain rfl : r = (q0 : Int) := e2
            obtain rfl : wl = q0 + 1 := hwl
            have HIN := Lib.hid hin; have HWK := Lib.hid hwk; have HG0 := Lib.hid hg0; have HZ0 := Lib.hid hz0; have HZQ := Lib.hid hzq
            clear hin hwk hg0 hz0 hzq
            obtain ⟨B1, HB9⟩ : ∃ z, Hid (q0 + 1 = z) := ⟨_, Lib.hid rfl⟩
            rw [HB9.out] at HWL
            rw [HWL.out] at hc6 hc7 Q3103 Q4103
            rw [HWL.out]
            have hB1 := HB9.out
            have kx113_0 : W103.cell? ⟨W97.heap.size, 0, none⟩ = some (.int .i64 (n0 : Nat)) := Y103.out.cell 0 (by simp)
            have kx113_1 : W103.cell? ⟨W97.heap.size, 1, none⟩ = some ((.slice Ar R.length cr)) := Y103.out.cell 1 (by simp)
            go_wp2_with fail
            clear kx113_0 kx113_1
            refine (IsPathLabeling_any n0 _ R _ _ _ ws _ _ _ SR103.out (by omega) Q3103.out (by omega) HG0.out HIN.out (by rw [HWL.out]; omega) (by rw [HWL.out]; omega)).mono ?_
            rintro e W114 ⟨rfl, hb114⟩
            have hg114 := grown_below hb114; clear hb114
            have hs114 := hg114.size
            have HF114 := Lib.hid (HF103.out.still hg114); clear HF103
            have S114 := Lib.hid (ISS.still S103.out hg114 (by omega)); clear S103
            have X114 := Lib.hid (BoxN.still X103.out hg114); clear X103
            have Q1114 := Lib.hid (IntS.still Q1103.out hg114 (by omega)); clear Q1103
            have Q2114 := Lib.hid (IntS.still Q2103.out hg114 (by omega)); clear Q2103
            have Q9114 := Lib.hid (IntS.still Q9103.out hg114 (by omega)); clear Q9103
            have SR114 := Lib.hid (ISS.still SR103.out hg114 (by omega)); clear SR103
            have Y114 := Lib.hid (BoxN.still Y103.out hg114); clear Y103
            have Q3114 := Lib.hid (IntS.still Q3103.out hg114 (by omega)); clear Q3103
            have Q4114 := Lib.hid (IntS.still Q4103.out hg114 (by omega)); clear Q4103
            rw [HWK.out]
            obtain ⟨bz, oz, rfl, _, _, x0, _⟩ := IntS.opened Q3114.out (j := 0) (by rw [HWL.out]; omega)
            obtain ⟨_, _, e9, _, _, xq, _⟩ := IntS.opened Q3114.out (j := q0) (by rw [HWL.out]; omega)
            cases e9
            rw [HZ0.out, Nat.add_zero] at x0
            rw [HZQ.out] at xq
            have hwr : IntKind.i64.wrap ((q0 : Int) + 1) = (B1 : Int) := by rw [IntWalk.i64_in _ (by omega)]; omega
            have hn1 : ((B1 : Int) != (B1 : Int)) = false := by simp
            have hn2 : (a != a) = false := by simp
            have hn3 : (b != b) = false := by simp
            have hqB : (q0 : Int) < B1 := by omega
            have hqB0 : (0 : Int) < B1 := by omega
            clear hB1
            by_cases hr1 : 1 ≤ (q0 : Int)
            case neg =>
              go_wp2_with fail
              go_ret
              exact ⟨rfl, (HF114.out.below_of (Below.refl _ _) (by omega) (by omega))⟩
            have kx115_0 : W114.cell? ⟨W97.heap.size, 0, none⟩ = some (.int .i64 (n0 : Nat)) := Y114.out.cell 0 (by simp)
            have kx115_1 : W114.cell? ⟨W97.heap.size, 1, none⟩ = some ((.slice Ar R.length cr)) := Y114.out.cell 1 (by simp)
            go_wp2_with fail
            clear kx115_0 kx115_1
            clear hwr x0 xq
            refine (IsWalkProblem_any (n0 : Int) _ R _ _ _ SR114.out (by omega)).mono ?_
            rintro e W116 ⟨rfl, hb116⟩
            have hg116 := grown_below hb116; clear hb116
            have hs116 := hg116.size
            have HF116 := Lib.hid (HF114.out.still hg116); clear HF114
            have S116 := Lib.hid (ISS.still S114.out hg116 (by omega)); clear S114
            have X116 := Lib.hid (BoxN.still X114.out hg116); clear X114
            have Q1116 := Lib.hid (IntS.still Q1114.out hg116 (by omega)); clear Q1114
            have Q2116 := Lib.hid (IntS.still Q2114.out hg116 (by omega)); clear Q2114
            have Q9116 := Lib.hid (IntS.still Q9114.out hg116 (by omega)); clear Q9114
            have SR116 := Lib.hid (ISS.still SR114.out hg116 (by omega)); clear SR114
            have Y116 := Lib.hid (BoxN.still Y114.out hg116); clear Y114
            have Q3116 := Lib.hid (IntS.still Q3114.out hg116 (by omega)); clear Q3114
            have Q4116 := Lib.hid (IntS.still Q4114.out hg116 (by omega)); clear Q4114
            by_cases hg : wkGood (n0 : Int) R = true
            case neg =>
              have hg' : wkGood (n0 : Int) R = false := by simpa using hg
              rw [hg']
              go_wp2_with fail
              go_ret
              exact ⟨rfl, (HF116.out.below_of (Below.refl _ _) (by omega) (by omega))⟩
            have HG := Lib.hid hg
            obtain ⟨n, hn, n1, n12⟩ := good_L hg
            have HGN := Lib.hid (show wkGood (n : Int) R = true by rw [← hn]; exact hg)
            have HN := Lib.hid hn
            rw [hg]
            clear hg hn
            by_cases h1 : 0 ≤ a
            case neg =>
              have kx117_0 : W116.cell? ⟨W97.heap.size, 0, none⟩ = some (.int .i64 (n0 : Nat)) := Y116.out.cell 0 (by simp)
              have kx117_1 : W116.cell? ⟨W97.heap.size, 1, none⟩ = some ((.slice Ar R.length cr)) := Y116.out.cell 1 (by simp)
              go_wp2_with fail
              go_ret
              exact ⟨rfl, (HF116.out.below_of (Below.refl _ _) (by omega) (by omega))⟩
            by_cases h2 : a < (n0 : Int)
            case neg =>
              have kx118_0 : W116.cell? ⟨W97.heap.size, 0, none⟩ = some (.int .i64 (n0 : Nat)) := Y116.out.cell 0 (by simp)
              have kx118_1 : W116.cell? ⟨W97.heap.size, 1, none⟩ = some ((.slice Ar R.length cr)) := Y116.out.cell 1 (by simp)
              go_wp2_with fail
              go_ret
              exact ⟨rfl, (HF116.out.below_of (Below.refl _ _) (by omega) (by omega))⟩
            by_cases h4 : b < (n0 : Int)
            case neg =>
              have kx119_0 : W116.cell? ⟨W97.heap.size, 0, none⟩ = some (.int .i64 (n0 : Nat)) := Y116.out.cell 0 (by simp)
              have kx119_1 : W116.cell? ⟨W97.heap.size, 1, none⟩ = some ((.slice Ar R.length cr)) := Y116.out.cell 1 (by simp)
              go_wp2_with fail
              go_ret
              exact ⟨rfl, (HF116.out.below_of (Below.refl _ _) (by omega) (by omega))⟩
            obtain ⟨x, rfl⟩ : ∃ x : Nat, a = x := ⟨a.toNat, by omega⟩
            obtain ⟨y, rfl⟩ : ∃ y : Nat, b = y := ⟨b.toNat, by omega⟩
            obtain ⟨q, hqq⟩ : ∃ q : Nat, q = q0 := ⟨_, rfl⟩
            subst hqq
            obtain rfl : n = n0 := by have := HN.out; omega
            have hxn : x < n := by omega
            have hyn : y < n := by omega
            have kx120_0 : W116.cell? ⟨W97.heap.size, 0, none⟩ = some (.int .i64 (n : Nat)) := Y116.out.cell 0 (by simp)
            have kx120_1 : W116.cell? ⟨W97.heap.size, 1, none⟩ = some ((.slice Ar R.length cr)) := Y116.out.cell 1 (by simp)
            go_wp2_with fail
            clear kx120_0 kx120_1
            refine (PowerWalk_any n _ R _ _ q _ SR116.out (by omega) HGN.out (by omega) (by omega)).mono ?_
            rintro e W121 ⟨r9, rfl, hr9, hb121⟩
            have hg121 := grown_below hb121; clear hb121
            have hs121 := hg121.size
            have HF121 := Lib.hid (HF116.out.still hg121); clear HF116
            have S121 := Lib.hid (ISS.still S116.out hg121 (by omega)); clear S116
            have X121 := Lib.hid (BoxN.still X116.out hg121); clear X116
            have Q1121 := Lib.hid (IntS.still Q1116.out hg121 (by omega)); clear Q1116
            have Q2121 := Lib.hid (IntS.still Q2116.out hg121 (by omega)); clear Q2116
            have Q9121 := Lib.hid (IntS.still Q9116.out hg121 (by omega)); clear Q9116
            have SR121 := Lib.hid (ISS.still SR116.out hg121 (by omega)); clear SR116
            have Y121 := Lib.hid (BoxN.still Y116.out hg121); clear Y116
            have Q3121 := Lib.hid (IntS.still Q3116.out hg121 (by omega)); clear Q3116
            have Q4121 := Lib.hid (IntS.still Q4116.out hg121 (by omega)); clear Q4116
            have HP9 := Lib.hid hr9; clear hr9
            obtain ⟨Aw, cw, rfl, hcw, hdw⟩ := SS.dims HP9.out
            obtain ⟨pl, HPL⟩ : ∃ z, Hid ((powR n (may R) q n).length = z) := ⟨_, Lib.hid rfl⟩
            rw [HPL.out] at hcw HP9
            rw [HPL.out]
            go_upto_region 28 with (fail)
            refine nameC ?_
            intro W122 HW122
            have hg122 : W121.grownBy W122 none := by rw [HW122.out]; exact grown_alloc _ _
            have hs122 := hg122.size
            have HF122 := Lib.hid (HF121.out.still hg122); clear HF121
            have S122 := Lib.hid (ISS.still S121.out hg122 (by omega)); clear S121
            have X122 := Lib.hid (BoxN.still X121.out hg122); clear X121
            have Q1122 := Lib.hid (IntS.still Q1121.out hg122 (by omega)); clear Q1121
            have Q2122 := Lib.hid (IntS.still Q2121.out hg122 (by omega)); clear Q2121
            have Q9122 := Lib.hid (IntS.still Q9121.out hg122 (by omega)); clear Q9121
            have SR122 := Lib.hid (ISS.still SR121.out hg122 (by omega)); clear SR121
            have Y122 := Lib.hid (BoxN.still Y121.out hg122); clear Y121
            have Q3122 := Lib.hid (IntS.still Q3121.out hg122 (by omega)); clear Q3121
            have Q4122 := Lib.hid (IntS.still Q4121.out hg122 (by omega)); clear Q4121
            have PW122 := Lib.hid (ISS.still HP9.out hg122 (by omega)); clear HP9
            have Z122 := Lib.hid (show BoxN W122 W121.heap.size #[.int .i64 (n : Nat), (.slice Aw pl cw)] 26 by rw [HW122.out]; first | exact BoxN.new _ _ _ | exact ((BoxN.new _ _ _).set 0 _).set 1 _)
            clear HW122
            by_cases hq199 : 199 < q
            case pos =>
              have hqi : (199 : Int) < (q : Int) := by omega
              go_wp2_with fail
              go_ret
              exact ⟨rfl, (HF122.out.below_of (Below.refl _ _) (by omega) (by omega))⟩
            have hqi : ¬ (199 : Int) < (q : Int) := by omega
            have HTW := Lib.hid (show hasArc (powR n (may R) q n) (x : Int) (y : Int) = true by rw [hasArc_pow hxn hyn, ← HTH.out, wbOk_w HGN.out hxn hyn (by omega)])
            have code_122 := Lib.hid (ByS.turned F1.out HF122.out (by omega) (by omega)); clear F1
            have more_122 := Lib.hid (ByS.turned F2.out HF122.out (by omega) (by omega)); clear F2
            have hbA122 : Below w.heap.size w W122 := (HF122.out.below_of (Below.refl _ _) (by omega) (by omega)); clear  HF122
            have kz0 : W122.cell? ⟨W121.heap.size, 0, none⟩ = some (.int .i64 (n : Nat)) := Z122.out.cell 0 (by simp)
            have kz1 : W122.cell? ⟨W121.heap.size, 1, none⟩ = some ((.slice Aw pl cw)) := Z122.out.cell 1 (by simp)
            go_wp2_with fail
            clear kz0 kz1
            go_loop [31, 236] (fun bv jv => ∃ (j : Nat) (c : Bool), j ≤ pl ∧ jv = .int .i64 j ∧ bv = .bool c ∧ Hid (c = hasArc ((powR n (may R) q n).take j) (x : Int) (y : Int))) (fun bv jv => pl - (intOf jv).toNat)
            case atStart => exact ⟨0, false, Nat.zero_le _, rfl, rfl, Lib.hid rfl⟩
            case round =>
              obtain ⟨j, c, hj, rfl, rfl, HCC⟩ := hrel
              by_cases hjl : j < pl
              case pos =>
                as_aux_lemma =>
                  have hji : (j : Int) < pl := by omega
                  obtain ⟨u, v, euv⟩ := powR_at (n := n) (k := q) (c := n) (m := may R) (j := j) (by rw [HPL.out]; exact hjl)
                  obtain ⟨bw, ow, uw, rfl, _, hbw, xw, huw⟩ := SS.opened PW122.out (j := j) (by rw [HPL.out]; exact hjl)
                  rw [euv] at huw
                  obtain ⟨Au, cu, rfl, hcu, hdu⟩ := huw.dims
                  obtain ⟨bu, ou, rfl, _, hbu, x0, _⟩ := huw.opened (j := 0) (by simp)
                  obtain ⟨_, _, e9, _, _, x1, _⟩ := huw.opened (j := 1) (by simp)
                  cases e9
                  rw [show nth [(u : Int), (v : Int)] 0 = (u : Int) from rfl, Nat.add_zero] at x0
                  rw [show nth [(u : Int), (v : Int)] 1 = (v : Int) from rfl] at x1
                  have hst := hasArc_take (l := powR n (may R) q n) (k := j) (by rw [HPL.out]; exact hjl) (x : Int) (y : Int)
                  rw [euv, show nth [(u : Int), (v : Int)] 0 = (u : Int) from rfl, show nth [(u : Int), (v : Int)] 1 = (v : Int) from rfl, ← HCC.out] at hst
                  have HST := Lib.hid hst
                  simp only [List.length_cons, List.length_nil, Nat.zero_add] at hcu xw
                  clear hst euv huw
                  obtain ⟨d1, HD1⟩ : ∃ d, Hid (((u : Int) == (x : Int)) = d) := ⟨_, Lib.hid rfl⟩
                  obtain ⟨d2, HD2⟩ : ∃ d, Hid (((v : Int) == (y : Int)) = d) := ⟨_, Lib.hid rfl⟩
                  have e1 := HD1.out
                  have e2 := HD2.out
                  rw [e1, e2] at HST
                  cases c <;> cases d1 <;> cases d2 <;>
                    (go_wp2_with fail
                     go_round
                     case rel => exact ⟨j + 1, _, by omega, by go_num, rfl, Lib.hid (by rw [HST.out]; rfl)⟩
                     case measure => simp [intOf]; omega)
              obtain rfl : j = pl := by omega
              have hji : ¬ (j : Int) < j := by omega
              have hcc : c = true := by rw [HCC.out, List.take_of_length_le (by rw [HPL.out]; exact Nat.le_refl _), HTW.out]
              subst hcc
              go_wp2_with fail
              go_ret
              exact ⟨rfl, hbA122⟩

end Go.Proofs.Ytbfjhehhpgcelaa
