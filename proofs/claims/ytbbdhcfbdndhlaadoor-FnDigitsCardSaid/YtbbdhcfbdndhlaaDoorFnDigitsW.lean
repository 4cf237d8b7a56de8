/-
  The walk of the law on digits: it returns true where the library's table of trailing zeros reads as listed.
-/
import Derived.Test.YtbbdhcfbdndhlaaDoorDg3
import Derived.Test.YtbbdhcfbdndhlaaDoorDg4
import Derived.Test.YtbbdhcfbdndhlaaDoorDg5
import Derived.Test.YtbbdhcfbdndhlaaDoorSubL
namespace Go.Proofs.YtbbdhcfbdndhlaaDoor
open Go.ChangeShapes Go.WideShapes Go.ChangeAt Go.RowKit
set_option linter.unusedVariables false

theorem tab_belowD {g : Nat} {tab : List Nat} {w w' : World} (h : TabAt g tab w) (hb : Below w.heap.size w w') (h0 : 0 < tab.length) : TabAt g tab w' := fun j hj => by
  have hl : g < w.heap.size := by
    rcases Nat.lt_or_ge g w.heap.size with h1 | h1
    · exact h1
    · exfalso
      have e : w.heap[g]? = none := Array.getElem?_eq_none h1
      have := h 0 h0
      simp [World.cell?, e] at this
  exact (hb.cell (p := ⟨g, j, none⟩) hl).trans (h j hj)
/-- the binary digits of a number below 2^40: as many as its length -/
theorem bits_digs {a : Nat} (h : a ≤ 1000000000000) : Lib.bitLen a ≤ 40 ∧ digOk (a : Int) 2 ((Lib.bitLen a : Nat) : Int) = true ∧ (∀ x ∈ digs a 2 (Lib.bitLen a), 0 ≤ x ∧ x ≤ 1) ∧ (0 < Lib.bitLen a → nth (digs a 2 (Lib.bitLen a)) (Lib.bitLen a - 1) = 1) := by
  have h40 := bitLen_40 (a := a) (by omega)
  obtain ⟨h1, h2⟩ := bits_len a (by omega)
  refine ⟨h40, ?_, fun x hx => ?_, fun hp => ?_⟩
  · unfold digOk
    rw [inB_true (by omega) (by omega), inB_true (by omega) (by omega), inB_true (by omega) (by omega), Int.toNat_natCast, Int.toNat_natCast, show (2 : Int).toNat = 2 from rfl, h1]; rfl
  · have := mem_digs (by decide) hx
    exact ⟨this.1, by have := this.2; simpa using this⟩
  · rw [nth_digs (by omega), h2 hp]; rfl

set_option maxHeartbeats 16000000 in
set_option maxRecDepth 100000 in
theorem FnDigits_walk (v1 : Value) (code : List Int) (lo1 hi1 : Nat) (v2 : Value) (more : List Int) (lo2 hi2 : Nat) (w : World) (h1 : ByS w lo1 hi1 v1 code) (hh1 : hi1 ≤ w.heap.size) (h2 : ByS w lo2 hi2 v2 more) (hh2 : hi2 ≤ w.heap.size) (hb1 : Bytes code) (hb2 : Bytes more) (hT : TabAt (Tryd.laysTZ_ren.g 1) Lib.deBruijn64tab w) :
    Calls Tryd.prog 3 #[v1, v2] w fun e w' => e = .returned (.bool true) ∧ Below w.heap.size w w' := by
  have HB1 := Lib.hid hb1; have HB2 := Lib.hid hb2; have HT := Lib.hid hT; clear hb1 hb2 hT
  have F1 := Lib.hid h1
  obtain ⟨A1, c1, rfl, hc1, hd1⟩ := h1.dims
  clear h1
  have F2 := Lib.hid h2
  obtain ⟨A2, c2, rfl, hc2, hd2⟩ := h2.dims
  clear h2
  go_enter Tryd.func3, Tryd.ntmps3
  go_wp2_with fail
  refine (big_any _ code lo1 hi1 _ more lo2 hi2 _ F1.out (by omega) F2.out (by omega)).mono ?_
  rintro e w' ⟨rfl, rfl⟩
  by_cases hsz : code.length + more.length ≤ 1048576
  case neg =>
    have HZ := Lib.hid (show (!decide (code.length + more.length ≤ 1048576)) = true by simp; omega)
    rw [HZ.out]
    go_wp2_with fail
    go_ret
    exact ⟨rfl, (Below.refl _ _)⟩
  have HZ := Lib.hid (show (!decide (code.length + more.length ≤ 1048576)) = false by simp; omega)
  rw [HZ.out]
  go_wp2_with fail
  refine (DrawDigitsOf_any _ code lo1 hi1 _ F1.out (by omega) HB1.out (by omega)).mono ?_
  rintro e W1 ⟨n, b, c, rfl, n1, n2, b1, b2, c1', c2', hb1⟩
  have hg1 := grown_below hb1; clear hb1
  have hs1 := hg1.size
  have HF1 := Lib.hid ((Turned.refl w.heap.size w.heap.size w).still hg1)
  go_wp2_with fail
  refine (DigitsOf_impl n b c _).mono ?_
  rintro e W2 ⟨q1, rfl, hq1, hb2⟩
  have hg2 := grown_below hb2; clear hb2
  have hs2 := hg2.size
  have HF2 := Lib.hid (HF1.out.still hg2); clear HF1
  have Q12 := Lib.hid hq1; clear hq1
  obtain ⟨A4, c4, rfl, hc4, hd4⟩ := IntS.dims Q12.out
  go_wp2_with fail
  refine (DigitsOf_spec n b c _).mono ?_
  rintro e W3 ⟨q2, rfl, hq2, hb3⟩
  have hg3 := grown_below hb3; clear hb3
  have hs3 := hg3.size
  have HF3 := Lib.hid (HF2.out.still hg3); clear HF2
  have Q13 := Lib.hid (IntS.still Q12.out hg3 (by omega)); clear Q12
  have Q23 := Lib.hid hq2; clear hq2
  obtain ⟨A5, c5, rfl, hc5, hd5⟩ := IntS.dims Q23.out
  obtain ⟨ok, HOK⟩ : ∃ x, Hid (digOk n b c = x) := ⟨_, Lib.hid rfl⟩
  obtain ⟨xs, HXS⟩ : ∃ x, Hid (digOut n b c = x) := ⟨_, Lib.hid rfl⟩
  rw [HOK.out]
  rw [HXS.out] at Q13 Q23 hc4 hc5
  rw [HXS.out]
  have hnb : (ok != ok) = false := by simp
  go_wp2_with fail
  refine (sameInts_same _ xs _ _ _ xs _ _ _ Q13.out (by omega) Q23.out (by omega) rfl).mono ?_
  rintro e W4 ⟨rfl, hb4⟩
  have hg4 := grown_below hb4; clear hb4
  have hs4 := hg4.size
  have HF4 := Lib.hid (HF3.out.still hg4); clear HF3
  have Q14 := Lib.hid (IntS.still Q13.out hg4 (by omega)); clear Q13
  have Q24 := Lib.hid (IntS.still Q23.out hg4 (by omega)); clear Q23
  cases ok with
  | false =>
    go_wp2_with fail
    refine (DrawFirstDifferentBit_any _ more lo2 hi2 _ (ByS.turned F2.out HF4.out (by omega) (by omega)) (by omega) HB2.out (by omega)).mono ?_
    rintro e W5 ⟨x, y, rfl, x1, x2, y1, y2, hb5⟩
    have hg5 := grown_below hb5; clear hb5
    have hs5 := hg5.size
    have HF5 := Lib.hid (HF4.out.still hg5); clear HF4
    have Q15 := Lib.hid (IntS.still Q14.out hg5 (by omega)); clear Q14
    have Q25 := Lib.hid (IntS.still Q24.out hg5 (by omega)); clear Q24
    have HTT := Lib.hid (tab_belowD HT.out (HF5.out.below_of (Below.refl _ _) (by omega) (by omega)) (by decide))
    go_wp2_with fail
    refine (FirstDifferentBit_impl x y _ HTT.out).mono ?_
    rintro e w' ⟨rfl, rfl⟩
    go_wp2_with fail
    refine (FirstDifferentBit_spec x y _).mono ?_
    rintro e w' ⟨rfl, rfl⟩
    obtain ⟨one, HONE⟩ : ∃ x', Hid (fdOk x y = x') := ⟨_, Lib.hid rfl⟩
    obtain ⟨fv, HFV⟩ : ∃ x', Hid (fdV x y = x') := ⟨_, Lib.hid rfl⟩
    rw [HONE.out, HFV.out]
    have ho1 : (one != one) = false := by simp
    have ho2 : (fv != fv) = false := by simp
    cases one with
    | false =>
      go_wp2_with fail
      refine (DrawNextPrime_any _ more lo2 hi2 _ (ByS.turned F2.out HF5.out (by omega) (by omega)) (by omega) HB2.out (by omega)).mono ?_
      rintro e W6 ⟨p, rfl, p1, p2, hb6⟩
      have hg6 := grown_below hb6; clear hb6
      have hs6 := hg6.size
      have HF6 := Lib.hid (HF5.out.still hg6); clear HF5
      have Q16 := Lib.hid (IntS.still Q15.out hg6 (by omega)); clear Q15
      have Q26 := Lib.hid (IntS.still Q25.out hg6 (by omega)); clear Q25
      have hbl : Below w.heap.size w W6 := (HF6.out.below_of (Below.refl _ _) (by omega) (by omega))
      go_wp2_with fail
      refine (NextPrime_impl p _).mono ?_
      rintro e w' h
      have hpr : w' = W6 := by rcases h with ⟨_, _, h⟩ | ⟨_, _, _, _, h⟩ <;> exact h.symm
      subst hpr
      rcases h with ⟨hp0, rfl, _⟩ | ⟨hp0, r, hr, rfl, _⟩
      · go_wp2_with fail
        refine (NextPrime_spec p _).mono ?_
        rintro e w' h
        rcases h with ⟨_, rfl, rfl⟩ | ⟨hp1, _⟩
        · go_wp2_with fail
          go_ret
          exact ⟨rfl, hbl⟩
        · rw [hp0] at hp1; cases hp1
      · go_wp2_with fail
        refine (NextPrime_spec p _).mono ?_
        rintro e w' h
        rcases h with ⟨hp1, _⟩ | ⟨_, s, hs, rfl, rfl⟩
        · rw [hp0] at hp1; cases hp1
        · obtain rfl := hr.1.one hs.1
          have HPB := Lib.hid hr.1.2.1
          have hpr2 := inB_le hp0
          have hrp : p ≤ (r : Int) := by have := hr.1.1; omega
          have hr3 := hr.2
          clear hr hs hp0
          by_cases hrm : (1000000 : Int) < (r : Int)
          · go_wp2_with fail
            go_ret
            exact ⟨rfl, hbl⟩
          · go_wp2_with (go_at_call 19; refine (IsPrime_any r _ (by omega)).mono ?_; rintro e w' ⟨rfl, rfl⟩; rw [HPB.out])
            go_ret
            exact ⟨rfl, hbl⟩
    | true =>
      obtain ⟨a, a', ea, ea', ha, ha', haa, d, ed, hd, hd40⟩ := fdOk_is HONE.out
      subst ea ea'
      obtain rfl : fv = (d : Int) := by rw [← HFV.out, ed]
      have HFD := Lib.hid hd
      clear ed hd
      go_wp2_with fail
      go_loop [20] (fun kv => ∃ (k : Nat), k ≤ d + 1 ∧ kv = .int .i64 k) (fun kv => d + 1 - (intOf kv).toNat)
      case atStart => exact ⟨0, Nat.zero_le _, rfl⟩
      case round =>
        obtain ⟨k, hk, rfl⟩ := hrel
        by_cases hkd : k ≤ d
        case pos =>
          have hkdi : (k : Int) ≤ d := by omega
          obtain ⟨p, HPP⟩ : ∃ p, Hid (bitN a k = p) := ⟨_, Lib.hid rfl⟩
          obtain ⟨q, HQQ⟩ : ∃ q, Hid (bitN a' k = q) := ⟨_, Lib.hid rfl⟩
          have HPA := Lib.hid (fun (w : World) => BitAt_any a k w ha (by omega))
          have HPB := Lib.hid (fun (w : World) => BitAt_any a' k w ha' (by omega))
          rw [HPP.out] at HPA
          rw [HQQ.out] at HPB
          by_cases hkl : k < d
          · have hpq : p = q := by have := HFD.out.2 k hkl; rw [HPP.out, HQQ.out] at this; exact this
            subst hpq
            have hkli : (k : Int) < d := by omega
            go_wp2_with fail
            refine (HPA.out _).mono ?_
            rintro e w' ⟨rfl, rfl⟩
            go_wp2_with fail
            refine (HPB.out _).mono ?_
            rintro e w' ⟨rfl, rfl⟩
            go_wp2_with fail
            go_round
            case rel => exact ⟨k + 1, by omega, by go_num⟩
            case measure => simp [intOf]; omega
          · obtain rfl : k = d := by omega
            have hpq : ¬ p = q := by have := HFD.out.1; rw [HPP.out, HQQ.out] at this; exact this
            have hpqi : ¬ (p : Int) = (q : Int) := by omega
            go_wp2_with fail
            refine (HPA.out _).mono ?_
            rintro e w' ⟨rfl, rfl⟩
            go_wp2_with fail
            refine (HPB.out _).mono ?_
            rintro e w' ⟨rfl, rfl⟩
            go_wp2_with fail
            go_round
            case rel => exact ⟨k + 1, by omega, by go_num⟩
            case measure => simp [intOf]
        obtain rfl : k = d + 1 := by omega
        obtain ⟨hbl40, hbok, hb01, hbtop⟩ := bits_digs ha
        have HBO := Lib.hid hbok; have HB01 := Lib.hid hb01; have HTOP := Lib.hid hbtop
        clear hbok hb01 hbtop
        have HBIT := Lib.hid (fun (w : World) => BitLength_any a w ha)
        obtain ⟨L, HLL⟩ : ∃ L, Hid (Lib.bitLen a = L) := ⟨_, Lib.hid rfl⟩
        rw [HLL.out] at hbl40 HBO HB01 HTOP HBIT
        have HDO := Lib.hid (show digOut (a : Int) 2 (L : Int) = digs a 2 L by rw [digOut_yes HBO.out, Int.toNat_natCast, Int.toNat_natCast]; rfl)
        have HDL := Lib.hid (digs_len a 2 L)
        have hdk : ¬ ((d : Int) + 1 ≤ d) := by omega
        go_wp2_with fail
        refine (HBIT.out _).mono ?_
        rintro e w' ⟨rfl, rfl⟩
        go_wp2_with fail
        refine (DigitsOf_impl (a : Int) 2 (L : Int) _).mono ?_
        rintro e W8 ⟨q3, rfl, hq3, hb8⟩
        have hg8 := grown_below hb8; clear hb8
        have hs8 := hg8.size
        have HF8 := Lib.hid (HF5.out.still hg8); clear HF5
        have Q18 := Lib.hid (IntS.still Q15.out hg8 (by omega)); clear Q15
        have Q28 := Lib.hid (IntS.still Q25.out hg8 (by omega)); clear Q25
        rw [HDO.out] at hq3
        have Q38 := Lib.hid hq3; clear hq3
        rw [HBO.out]
        obtain ⟨Y, HYY⟩ : ∃ Y, Hid (digs a 2 L = Y) := ⟨_, Lib.hid rfl⟩
        rw [HYY.out] at Q38 HB01 HTOP HDL
        obtain ⟨A6, c6, rfl, hc6, hd6⟩ := IntS.dims Q38.out
        have hsum := sumI_bits HB01.out Y.length (Nat.le_refl _)
        rw [List.take_length] at hsum
        have hyl : Y.length ≤ 64 := by rw [HDL.out]; omega
        have HQS := Lib.hid (fun (w : World) (v1 : Value) (l1 h1 : Nat) (hh : IntS w l1 h1 v1 Y) (hz : h1 ≤ w.heap.size) => qSum_any v1 Y l1 h1 w hh hz HB01.out hyl)
        obtain ⟨sm, HSM⟩ : ∃ s, Hid (sumI Y = s) := ⟨_, Lib.hid rfl⟩
        rw [HSM.out] at hsum HQS
        have hsl : ¬ (L : Int) < sm := by rw [HDL.out] at hsum; omega
        have HQ3 := Q38
        clear hsum
        by_cases hL0 : 0 < L
        case pos =>
          have hL0i : (0 : Int) < L := by omega
          have HT1 := Lib.hid (HTOP.out hL0)
          obtain ⟨b6, o6, rfl, _, _, y6, _⟩ := IntS.opened HQ3.out (j := L - 1) (by rw [HDL.out]; omega)
          rw [HT1.out] at y6
          obtain ⟨M, HMM⟩ : ∃ M, Hid (L - 1 = M) := ⟨_, Lib.hid rfl⟩
          rw [HMM.out] at y6
          have hlm : (L : Int) - 1 = (M : Int) := by have := HMM.out; omega
          have hml : (M : Int) < Y.length := by rw [HDL.out]; have := HMM.out; omega
          go_wp2_with (go_at_call 15; refine (HQS.out _ _ _ _ HQ3.out (by omega)).mono ?_; rintro e w' ⟨rfl, rfl⟩)
          go_wp2_with fail
          refine (DrawNextPrime_any _ more lo2 hi2 _ (ByS.turned F2.out HF8.out (by omega) (by omega)) (by omega) HB2.out (by omega)).mono ?_
          rintro e W9 ⟨p, rfl, p1, p2, hb9⟩
          have hg9 := grown_below hb9; clear hb9
          have hs9 := hg9.size
          have HF9 := Lib.hid (HF8.out.still hg9); clear HF8
          have Q19 := Lib.hid (IntS.still Q18.out hg9 (by omega)); clear Q18
          have Q29 := Lib.hid (IntS.still Q28.out hg9 (by omega)); clear Q28
          have Q39 := Lib.hid (IntS.still Q38.out hg9 (by omega)); clear Q38
          have hbl : Below w.heap.size w W9 := (HF9.out.below_of (Below.refl _ _) (by omega) (by omega))
          go_wp2_with fail
          refine (NextPrime_impl p _).mono ?_
          rintro e w' h
          have hpr : w' = W9 := by rcases h with ⟨_, _, h⟩ | ⟨_, _, _, _, h⟩ <;> exact h.symm
          subst hpr
          rcases h with ⟨hp0, rfl, _⟩ | ⟨hp0, r, hr, rfl, _⟩
          · go_wp2_with fail
            refine (NextPrime_spec p _).mono ?_
            rintro e w' h
            rcases h with ⟨_, rfl, rfl⟩ | ⟨hp1, _⟩
            · go_wp2_with fail
              go_ret
              exact ⟨rfl, hbl⟩
            · rw [hp0] at hp1; cases hp1
          · go_wp2_with fail
            refine (NextPrime_spec p _).mono ?_
            rintro e w' h
            rcases h with ⟨hp1, _⟩ | ⟨_, s, hs, rfl, rfl⟩
            · rw [hp0] at hp1; cases hp1
            · obtain rfl := hr.1.one hs.1
              have HPB := Lib.hid hr.1.2.1
              have hpr2 := inB_le hp0
              have hrp : p ≤ (r : Int) := by have := hr.1.1; omega
              have hr3 := hr.2
              clear hr hs hp0
              by_cases hrm : (1000000 : Int) < (r : Int)
              · go_wp2_with fail
                go_ret
                exact ⟨rfl, hbl⟩
              · go_wp2_with (go_at_call 19; refine (IsPrime_any r _ (by omega)).mono ?_; rintro e w' ⟨rfl, rfl⟩; rw [HPB.out])
                go_ret
                exact ⟨rfl, hbl⟩
        obtain rfl : L = 0 := by omega
        have hL0i : ¬ (0 : Int) < 0 := by omega
        go_wp2_with (go_at_call 15; refine (HQS.out _ _ _ _ HQ3.out (by omega)).mono ?_; rintro e w' ⟨rfl, rfl⟩)
        go_wp2_with fail
        refine (DrawNextPrime_any _ more lo2 hi2 _ (ByS.turned F2.out HF8.out (by omega) (by omega)) (by omega) HB2.out (by omega)).mono ?_
        rintro e W10 ⟨p, rfl, p1, p2, hb10⟩
        have hg10 := grown_below hb10; clear hb10
        have hs10 := hg10.size
        have HF10 := Lib.hid (HF8.out.still hg10); clear HF8
        have Q110 := Lib.hid (IntS.still Q18.out hg10 (by omega)); clear Q18
        have Q210 := Lib.hid (IntS.still Q28.out hg10 (by omega)); clear Q28
        have Q310 := Lib.hid (IntS.still Q38.out hg10 (by omega)); clear Q38
        have hbl : Below w.heap.size w W10 := (HF10.out.below_of (Below.refl _ _) (by omega) (by omega))
        go_wp2_with fail
        refine (NextPrime_impl p _).mono ?_
        rintro e w' h
        have hpr : w' = W10 := by rcases h with ⟨_, _, h⟩ | ⟨_, _, _, _, h⟩ <;> exact h.symm
        subst hpr
        rcases h with ⟨hp0, rfl, _⟩ | ⟨hp0, r, hr, rfl, _⟩
        · go_wp2_with fail
          refine (NextPrime_spec p _).mono ?_
          rintro e w' h
          rcases h with ⟨_, rfl, rfl⟩ | ⟨hp1, _⟩
          · go_wp2_with fail
            go_ret
            exact ⟨rfl, hbl⟩
          · rw [hp0] at hp1; cases hp1
        · go_wp2_with fail
          refine (NextPrime_spec p _).mono ?_
          rintro e w' h
          rcases h with ⟨hp1, _⟩ | ⟨_, s, hs, rfl, rfl⟩
          · rw [hp0] at hp1; cases hp1
          · obtain rfl := hr.1.one hs.1
            have HPB := Lib.hid hr.1.2.1
            have hpr2 := inB_le hp0
            have hrp : p ≤ (r : Int) := by have := hr.1.1; omega
            have hr3 := hr.2
            clear hr hs hp0
            by_cases hrm : (1000000 : Int) < (r : Int)
            · go_wp2_with fail
              go_ret
              exact ⟨rfl, hbl⟩
            · go_wp2_with (go_at_call 19; refine (IsPrime_any r _ (by omega)).mono ?_; rintro e w' ⟨rfl, rfl⟩; rw [HPB.out])
              go_ret
              exact ⟨rfl, hbl⟩
  | true =>
    obtain ⟨n', b', c', en, eb, ec, hn', hb2', hb3', hc6', hq0⟩ := digOk_is HOK.out
    subst en eb ec
    have HXE := Lib.hid (show xs = digs n' b' c' by rw [← HXS.out, digOut_yes HOK.out, Int.toNat_natCast, Int.toNat_natCast, Int.toNat_natCast])
    have HXL := Lib.hid (show xs.length = c' by rw [HXE.out]; exact digs_len _ _ _)
    have HQ0 := Lib.hid hq0; clear hq0
    go_wp2_with fail
    refine (FromDigits_any b' _ xs _ _ _ Q14.out (by omega) n' c' HXE.out hn' hb2' hb3' hc6' HQ0.out).mono ?_
    rintro e W11 ⟨rfl, hb11⟩
    have hg11 := grown_below hb11; clear hb11
    have hs11 := hg11.size
    have HF11 := Lib.hid (HF4.out.still hg11); clear HF4
    have Q111 := Lib.hid (IntS.still Q14.out hg11 (by omega)); clear Q14
    have Q211 := Lib.hid (IntS.still Q24.out hg11 (by omega)); clear Q24
    have hxl1 : ((xs.length : Int) != (c' : Int)) = false := by rw [HXL.out]; simp
    have hnn : ((n' : Int) != (n' : Int)) = false := by simp
    have hxl2 : (xs.length : Int) = (c' : Int) := by rw [HXL.out]
    go_wp2_with fail
    refine (DrawFirstDifferentBit_any _ more lo2 hi2 _ (ByS.turned F2.out HF11.out (by omega) (by omega)) (by omega) HB2.out (by omega)).mono ?_
    rintro e W12 ⟨x, y, rfl, x1, x2, y1, y2, hb12⟩
    have hg12 := grown_below hb12; clear hb12
    have hs12 := hg12.size
    have HF12 := Lib.hid (HF11.out.still hg12); clear HF11
    have Q112 := Lib.hid (IntS.still Q111.out hg12 (by omega)); clear Q111
    have Q212 := Lib.hid (IntS.still Q211.out hg12 (by omega)); clear Q211
    have HTT := Lib.hid (tab_belowD HT.out (HF12.out.below_of (Below.refl _ _) (by omega) (by omega)) (by decide))
    go_wp2_with fail
    refine (FirstDifferentBit_impl x y _ HTT.out).mono ?_
    rintro e w' ⟨rfl, rfl⟩
    go_wp2_with fail
    refine (FirstDifferentBit_spec x y _).mono ?_
    rintro e w' ⟨rfl, rfl⟩
    obtain ⟨one, HONE⟩ : ∃ x', Hid (fdOk x y = x') := ⟨_, Lib.hid rfl⟩
    obtain ⟨fv, HFV⟩ : ∃ x', Hid (fdV x y = x') := ⟨_, Lib.hid rfl⟩
    rw [HONE.out, HFV.out]
    have ho1 : (one != one) = false := by simp
    have ho2 : (fv != fv) = false := by simp
    cases one with
    | false =>
      go_wp2_with fail
      refine (DrawNextPrime_any _ more lo2 hi2 _ (ByS.turned F2.out HF12.out (by omega) (by omega)) (by omega) HB2.out (by omega)).mono ?_
      rintro e W13 ⟨p, rfl, p1, p2, hb13⟩
      have hg13 := grown_below hb13; clear hb13
      have hs13 := hg13.size
      have HF13 := Lib.hid (HF12.out.still hg13); clear HF12
      have Q113 := Lib.hid (IntS.still Q112.out hg13 (by omega)); clear Q112
      have Q213 := Lib.hid (IntS.still Q212.out hg13 (by omega)); clear Q212
      have hbl : Below w.heap.size w W13 := (HF13.out.below_of (Below.refl _ _) (by omega) (by omega))
      go_wp2_with fail
      refine (NextPrime_impl p _).mono ?_
      rintro e w' h
      have hpr : w' = W13 := by rcases h with ⟨_, _, h⟩ | ⟨_, _, _, _, h⟩ <;> exact h.symm
      subst hpr
      rcases h with ⟨hp0, rfl, _⟩ | ⟨hp0, r, hr, rfl, _⟩
      · go_wp2_with fail
        refine (NextPrime_spec p _).mono ?_
        rintro e w' h
        rcases h with ⟨_, rfl, rfl⟩ | ⟨hp1, _⟩
        · go_wp2_with fail
          go_ret
          exact ⟨rfl, hbl⟩
        · rw [hp0] at hp1; cases hp1
      · go_wp2_with fail
        refine (NextPrime_spec p _).mono ?_
        rintro e w' h
        rcases h with ⟨hp1, _⟩ | ⟨_, s, hs, rfl, rfl⟩
        · rw [hp0] at hp1; cases hp1
        · obtain rfl := hr.1.one hs.1
          have HPB := Lib.hid hr.1.2.1
          have hpr2 := inB_le hp0
          have hrp : p ≤ (r : Int) := by have := hr.1.1; omega
          have hr3 := hr.2
          clear hr hs hp0
          by_cases hrm : (1000000 : Int) < (r : Int)
          · go_wp2_with fail
            go_ret
            exact ⟨rfl, hbl⟩
          · go_wp2_with (go_at_call 19; refine (IsPrime_any r _ (by omega)).mono ?_; rintro e w' ⟨rfl, rfl⟩; rw [HPB.out])
            go_ret
            exact ⟨rfl, hbl⟩
    | true =>
      obtain ⟨a, a', ea, ea', ha, ha', haa, d, ed, hd, hd40⟩ := fdOk_is HONE.out
      subst ea ea'
      obtain rfl : fv = (d : Int) := by rw [← HFV.out, ed]
      have HFD := Lib.hid hd
      clear ed hd
      go_wp2_with fail
      go_loop [20] (fun kv => ∃ (k : Nat), k ≤ d + 1 ∧ kv = .int .i64 k) (fun kv => d + 1 - (intOf kv).toNat)
      case atStart => exact ⟨0, Nat.zero_le _, rfl⟩
      case round =>
        obtain ⟨k, hk, rfl⟩ := hrel
        by_cases hkd : k ≤ d
        case pos =>
          have hkdi : (k : Int) ≤ d := by omega
          obtain ⟨p, HPP⟩ : ∃ p, Hid (bitN a k = p) := ⟨_, Lib.hid rfl⟩
          obtain ⟨q, HQQ⟩ : ∃ q, Hid (bitN a' k = q) := ⟨_, Lib.hid rfl⟩
          have HPA := Lib.hid (fun (w : World) => BitAt_any a k w ha (by omega))
          have HPB := Lib.hid (fun (w : World) => BitAt_any a' k w ha' (by omega))
          rw [HPP.out] at HPA
          rw [HQQ.out] at HPB
          by_cases hkl : k < d
          · have hpq : p = q := by have := HFD.out.2 k hkl; rw [HPP.out, HQQ.out] at this; exact this
            subst hpq
            have hkli : (k : Int) < d := by omega
            go_wp2_with fail
            refine (HPA.out _).mono ?_
            rintro e w' ⟨rfl, rfl⟩
            go_wp2_with fail
            refine (HPB.out _).mono ?_
            rintro e w' ⟨rfl, rfl⟩
            go_wp2_with fail
            go_round
            case rel => exact ⟨k + 1, by omega, by go_num⟩
            case measure => simp [intOf]; omega
          · obtain rfl : k = d := by omega
            have hpq : ¬ p = q := by have := HFD.out.1; rw [HPP.out, HQQ.out] at this; exact this
            have hpqi : ¬ (p : Int) = (q : Int) := by omega
            go_wp2_with fail
            refine (HPA.out _).mono ?_
            rintro e w' ⟨rfl, rfl⟩
            go_wp2_with fail
            refine (HPB.out _).mono ?_
            rintro e w' ⟨rfl, rfl⟩
            go_wp2_with fail
            go_round
            case rel => exact ⟨k + 1, by omega, by go_num⟩
            case measure => simp [intOf]
        obtain rfl : k = d + 1 := by omega
        obtain ⟨hbl40, hbok, hb01, hbtop⟩ := bits_digs ha
        have HBO := Lib.hid hbok; have HB01 := Lib.hid hb01; have HTOP := Lib.hid hbtop
        clear hbok hb01 hbtop
        have HBIT := Lib.hid (fun (w : World) => BitLength_any a w ha)
        obtain ⟨L, HLL⟩ : ∃ L, Hid (Lib.bitLen a = L) := ⟨_, Lib.hid rfl⟩
        rw [HLL.out] at hbl40 HBO HB01 HTOP HBIT
        have HDO := Lib.hid (show digOut (a : Int) 2 (L : Int) = digs a 2 L by rw [digOut_yes HBO.out, Int.toNat_natCast, Int.toNat_natCast]; rfl)
        have HDL := Lib.hid (digs_len a 2 L)
        have hdk : ¬ ((d : Int) + 1 ≤ d) := by omega
        go_wp2_with fail
        refine (HBIT.out _).mono ?_
        rintro e w' ⟨rfl, rfl⟩
        go_wp2_with fail
        refine (DigitsOf_impl (a : Int) 2 (L : Int) _).mono ?_
        rintro e W15 ⟨q3, rfl, hq3, hb15⟩
        have hg15 := grown_below hb15; clear hb15
        have hs15 := hg15.size
        have HF15 := Lib.hid (HF12.out.still hg15); clear HF12
        have Q115 := Lib.hid (IntS.still Q112.out hg15 (by omega)); clear Q112
        have Q215 := Lib.hid (IntS.still Q212.out hg15 (by omega)); clear Q212
        rw [HDO.out] at hq3
        have Q315 := Lib.hid hq3; clear hq3
        rw [HBO.out]
        obtain ⟨Y, HYY⟩ : ∃ Y, Hid (digs a 2 L = Y) := ⟨_, Lib.hid rfl⟩
        rw [HYY.out] at Q315 HB01 HTOP HDL
        obtain ⟨A6, c6, rfl, hc6, hd6⟩ := IntS.dims Q315.out
        have hsum := sumI_bits HB01.out Y.length (Nat.le_refl _)
        rw [List.take_length] at hsum
        have hyl : Y.length ≤ 64 := by rw [HDL.out]; omega
        have HQS := Lib.hid (fun (w : World) (v1 : Value) (l1 h1 : Nat) (hh : IntS w l1 h1 v1 Y) (hz : h1 ≤ w.heap.size) => qSum_any v1 Y l1 h1 w hh hz HB01.out hyl)
        obtain ⟨sm, HSM⟩ : ∃ s, Hid (sumI Y = s) := ⟨_, Lib.hid rfl⟩
        rw [HSM.out] at hsum HQS
        have hsl : ¬ (L : Int) < sm := by rw [HDL.out] at hsum; omega
        have HQ3 := Q315
        clear hsum
        by_cases hL0 : 0 < L
        case pos =>
          have hL0i : (0 : Int) < L := by omega
          have HT1 := Lib.hid (HTOP.out hL0)
          obtain ⟨b6, o6, rfl, _, _, y6, _⟩ := IntS.opened HQ3.out (j := L - 1) (by rw [HDL.out]; omega)
          rw [HT1.out] at y6
          obtain ⟨M, HMM⟩ : ∃ M, Hid (L - 1 = M) := ⟨_, Lib.hid rfl⟩
          rw [HMM.out] at y6
          have hlm : (L : Int) - 1 = (M : Int) := by have := HMM.out; omega
          have hml : (M : Int) < Y.length := by rw [HDL.out]; have := HMM.out; omega
          go_wp2_with (go_at_call 15; refine (HQS.out _ _ _ _ HQ3.out (by omega)).mono ?_; rintro e w' ⟨rfl, rfl⟩)
          go_wp2_with fail
          refine (DrawNextPrime_any _ more lo2 hi2 _ (ByS.turned F2.out HF15.out (by omega) (by omega)) (by omega) HB2.out (by omega)).mono ?_
          rintro e W16 ⟨p, rfl, p1, p2, hb16⟩
          have hg16 := grown_below hb16; clear hb16
          have hs16 := hg16.size
          have HF16 := Lib.hid (HF15.out.still hg16); clear HF15
          have Q116 := Lib.hid (IntS.still Q115.out hg16 (by omega)); clear Q115
          have Q216 := Lib.hid (IntS.still Q215.out hg16 (by omega)); clear Q215
          have Q316 := Lib.hid (IntS.still Q315.out hg16 (by omega)); clear Q315
          have hbl : Below w.heap.size w W16 := (HF16.out.below_of (Below.refl _ _) (by omega) (by omega))
          go_wp2_with fail
          refine (NextPrime_impl p _).mono ?_
          rintro e w' h
          have hpr : w' = W16 := by rcases h with ⟨_, _, h⟩ | ⟨_, _, _, _, h⟩ <;> exact h.symm
          subst hpr
          rcases h with ⟨hp0, rfl, _⟩ | ⟨hp0, r, hr, rfl, _⟩
          · go_wp2_with fail
            refine (NextPrime_spec p _).mono ?_
            rintro e w' h
            rcases h with ⟨_, rfl, rfl⟩ | ⟨hp1, _⟩
            · go_wp2_with fail
              go_ret
              exact ⟨rfl, hbl⟩
            · rw [hp0] at hp1; cases hp1
          · go_wp2_with fail
            refine (NextPrime_spec p _).mono ?_
            rintro e w' h
            rcases h with ⟨hp1, _⟩ | ⟨_, s, hs, rfl, rfl⟩
            · rw [hp0] at hp1; cases hp1
            · obtain rfl := hr.1.one hs.1
              have HPB := Lib.hid hr.1.2.1
              have hpr2 := inB_le hp0
              have hrp : p ≤ (r : Int) := by have := hr.1.1; omega
              have hr3 := hr.2
              clear hr hs hp0
              by_cases hrm : (1000000 : Int) < (r : Int)
              · go_wp2_with fail
                go_ret
                exact ⟨rfl, hbl⟩
              · go_wp2_with (go_at_call 19; refine (IsPrime_any r _ (by omega)).mono ?_; rintro e w' ⟨rfl, rfl⟩; rw [HPB.out])
                go_ret
                exact ⟨rfl, hbl⟩
        obtain rfl : L = 0 := by omega
        have hL0i : ¬ (0 : Int) < 0 := by omega
        go_wp2_with (go_at_call 15; refine (HQS.out _ _ _ _ HQ3.out (by omega)).mono ?_; rintro e w' ⟨rfl, rfl⟩)
        go_wp2_with fail
        refine (DrawNextPrime_any _ more lo2 hi2 _ (ByS.turned F2.out HF15.out (by omega) (by omega)) (by omega) HB2.out (by omega)).mono ?_
        rintro e W17 ⟨p, rfl, p1, p2, hb17⟩
        have hg17 := grown_below hb17; clear hb17
        have hs17 := hg17.size
        have HF17 := Lib.hid (HF15.out.still hg17); clear HF15
        have Q117 := Lib.hid (IntS.still Q115.out hg17 (by omega)); clear Q115
        have Q217 := Lib.hid (IntS.still Q215.out hg17 (by omega)); clear Q215
        have Q317 := Lib.hid (IntS.still Q315.out hg17 (by omega)); clear Q315
        have hbl : Below w.heap.size w W17 := (HF17.out.below_of (Below.refl _ _) (by omega) (by omega))
        go_wp2_with fail
        refine (NextPrime_impl p _).mono ?_
        rintro e w' h
        have hpr : w' = W17 := by rcases h with ⟨_, _, h⟩ | ⟨_, _, _, _, h⟩ <;> exact h.symm
        subst hpr
        rcases h with ⟨hp0, rfl, _⟩ | ⟨hp0, r, hr, rfl, _⟩
        · go_wp2_with fail
          refine (NextPrime_spec p _).mono ?_
          rintro e w' h
          rcases h with ⟨_, rfl, rfl⟩ | ⟨hp1, _⟩
          · go_wp2_with fail
            go_ret
            exact ⟨rfl, hbl⟩
          · rw [hp0] at hp1; cases hp1
        · go_wp2_with fail
          refine (NextPrime_spec p _).mono ?_
          rintro e w' h
          rcases h with ⟨hp1, _⟩ | ⟨_, s, hs, rfl, rfl⟩
          · rw [hp0] at hp1; cases hp1
          · obtain rfl := hr.1.one hs.1
            have HPB := Lib.hid hr.1.2.1
            have hpr2 := inB_le hp0
            have hrp : p ≤ (r : Int) := by have := hr.1.1; omega
            have hr3 := hr.2
            clear hr hs hp0
            by_cases hrm : (1000000 : Int) < (r : Int)
            · go_wp2_with fail
              go_ret
              exact ⟨rfl, hbl⟩
            · go_wp2_with (go_at_call 19; refine (IsPrime_any r _ (by omega)).mono ?_; rintro e w' ⟨rfl, rfl⟩; rw [HPB.out])
              go_ret
              exact ⟨rfl, hbl⟩

end Go.Proofs.YtbbdhcfbdndhlaaDoor
