/-
  The walk of the law on sums: it returns true.
-/
import Derived.Test.YtanikenkfnhicaaSums4
import Derived.Test.YtanikenkfnhicaaSubL
namespace Go.Proofs.Ytanikenkfnhicaa
open Go.ChangeShapes Go.WideShapes Go.ChangeAt Go.RowKit
set_option linter.unusedVariables false

theorem FnSums.own : ownKnob Try.prog.godebug = none := by kernel_rfl
def dotI (xs ys : List Nat) : Nat → Nat
  | 0 => 0
  | i + 1 => dotI xs ys i + xs.getD i 0 * ys.getD i 0
theorem dotI_cons (x y : Nat) (xs ys : List Nat) : ∀ i, dotI (x :: xs) (y :: ys) (i + 1) = x * y + dotI xs ys i
  | 0 => by simp [dotI]
  | i + 1 => by
    have h := dotI_cons x y xs ys i
    rw [show dotI (x :: xs) (y :: ys) (i + 1 + 1) = dotI (x :: xs) (y :: ys) (i + 1) + (x :: xs).getD (i + 1) 0 * (y :: ys).getD (i + 1) 0 from rfl, h]
    show x * y + dotI xs ys i + xs.getD i 0 * ys.getD i 0 = x * y + (dotI xs ys i + xs.getD i 0 * ys.getD i 0)
    omega
theorem dotI_full : ∀ {xs ys : List Nat}, xs.length = ys.length → dotI xs ys xs.length = dotN xs ys
  | [], [], _ => rfl
  | x :: xs, y :: ys, h => by rw [List.length_cons, dotI_cons, dotI_full (by simpa using h)]; rfl
theorem dotI_mono (xs ys : List Nat) {i j : Nat} (h : i ≤ j) : dotI xs ys i ≤ dotI xs ys j := by
  induction j with
  | zero => obtain rfl : i = 0 := by omega
            exact Nat.le_refl _
  | succ j ih =>
    rcases Nat.lt_succ_iff_lt_or_eq.1 (Nat.lt_succ_of_le h) with h1 | rfl
    · exact Nat.le_trans (ih (by omega)) (Nat.le_add_right _ _)
    · exact Nat.le_refl _
/-- what a good sum is like -/
theorem sums_yes {z : List Int} {n : Int} (h : sumsOk z n = true) : ∃ (l : List Nat) (N : Nat), z = natL l ∧ n = N ∧ N ≤ 2000 ∧ Lens l ∧ sumsV z n = natL (partsN l N) ∧ (partsN l N).length = l.length ∧ dotI (partsN l N) l l.length = N := by
  have hV : sumsV z n = natL (partsN (z.map Int.toNat) n.toNat) := by unfold sumsV; rw [if_pos h]
  unfold sumsOk at h
  rw [Bool.and_eq_true, Bool.and_eq_true] at h
  obtain ⟨⟨h1, h2⟩, h3⟩ := h
  obtain ⟨l, hz, hl⟩ := lensB_of h1
  have h2' : 0 ≤ n ∧ n ≤ 2000 := by unfold inB at h2; simpa using h2
  have hm : z.map Int.toNat = l := by rw [hz]; exact natL_toNat
  rw [hm] at hV h3
  have hR := (rb_iff (fun x hx => (hl.is x hx).1) _).1 h3
  refine ⟨l, n.toNat, hz, by omega, by omega, hl, hV, partsN_length _ _, ?_⟩
  have := dotI_full (partsN_length l n.toNat)
  rw [partsN_length] at this
  rw [this]
  exact partsN_sum (fun x hx => (hl.is x hx).1) hR
/-- what the conductor is like -/
theorem cnd_yes {z : List Int} (h : lensB z = true) : ∃ c g q : Nat, cndZ z = c ∧ gcdZ z = g ∧ 1 ≤ g ∧ g ≤ 40 ∧ c ≤ 1601 ∧ (c + g - 1) / g = q ∧ q * g ≤ 1640 ∧ (∀ k, k < 3 → sumsOk z ((q * g + k * g : Nat) : Int) = true) ∧ (g ≤ q * g → sumsOk z ((q * g - g : Nat) : Int) = false) := by
  obtain ⟨l, rfl, hl⟩ := lensB_of h
  obtain ⟨g1, g2⟩ := hl.g
  obtain ⟨g, hg⟩ : ∃ g, gcdF 0 l = g := ⟨_, rfl⟩
  obtain ⟨c, hc⟩ : ∃ c, cndN l = c := ⟨_, rfl⟩
  rw [hg] at g1 g2
  have hc1 : c ≤ 1601 := by
    rcases Nat.eq_zero_or_pos c with h0 | h0
    · omega
    · have := (cndN_last hl (by omega)).2.2; omega
  have hq1 : (c + g - 1) / g * g ≤ c + g - 1 := Nat.div_mul_le_self _ _
  have hq2 : c ≤ (c + g - 1) / g * g := by
    have h1 := Nat.div_add_mod (c + g - 1) g
    have h2 := Nat.mod_lt (c + g - 1) (show g > 0 by omega)
    rw [Nat.mul_comm] at h1
    omega
  have hok : ∀ m : Nat, m ≤ 2000 → sumsOk (natL l) (m : Int) = rb l m := fun m hm => by
    unfold sumsOk
    rw [h, natL_toNat, Int.toNat_natCast, show inB (m : Int) 0 2000 = true by unfold inB; simp; omega]; rfl
  refine ⟨c, g, (c + g - 1) / g, by rw [cndZ_nat h, hc], by rw [gcdZ_nat h, hg], g1, g2, hc1, rfl, by omega, fun k hk => ?_, fun hgq => ?_⟩
  · have hkg : k * g ≤ 2 * g := Nat.mul_le_mul_right _ (by omega)
    rw [hok _ (by omega)]
    exact cndN_from hl (by rw [hg]; exact Nat.dvd_add (Nat.dvd_mul_left _ _) (Nat.dvd_mul_left _ _)) (by omega)
  · have hc0 : 0 < c := by
      rcases Nat.eq_zero_or_pos c with h0 | h0
      · subst h0; rw [Nat.zero_add, Nat.div_eq_of_lt (by omega)] at hgq; omega
      · exact h0
    obtain ⟨⟨t, ht⟩, hr, _⟩ := cndN_last hl (by omega)
    rw [hg, hc] at ht
    rw [hc] at hr
    have hq : (c + g - 1) / g = t + 1 := by
      rw [show c + g - 1 = g * (t + 1) by rw [Nat.mul_succ]; omega]
      exact Nat.mul_div_cancel_left _ (by omega)
    rw [hok _ (by omega), hq, Nat.succ_mul, Nat.add_sub_cancel, Nat.mul_comm, ← ht]
    exact hr

set_option maxHeartbeats 4000000 in
set_option maxRecDepth 100000 in
theorem FnSums_walk (v1 : Value) (code : List Int) (lo1 hi1 : Nat) (v2 : Value) (more : List Int) (lo2 hi2 : Nat) (w : World) (h1 : ByS w lo1 hi1 v1 code) (hh1 : hi1 ≤ w.heap.size) (h2 : ByS w lo2 hi2 v2 more) (hh2 : hi2 ≤ w.heap.size) (hb1 : Bytes code) (hb2 : Bytes more) :
    Calls Try.prog 3 #[v1, v2] w fun e w' => e = .returned (.bool true) ∧ Below w.heap.size w w' := by
  have HB1 := Lib.hid hb1; clear hb1
  have HB2 := Lib.hid hb2; clear hb2
  have F1 := Lib.hid h1
  obtain ⟨A1, c1, rfl, hc1, hd1⟩ := h1.dims
  clear h1
  have F2 := Lib.hid h2
  obtain ⟨A2, c2, rfl, hc2, hd2⟩ := h2.dims
  clear h2
  go_enter Try.func3, Try.ntmps3
  go_wp2_with fail
  refine (big_any _ code lo1 hi1 _ more lo2 hi2 _ F1.out (by omega) F2.out (by omega)).mono ?_
  rintro e w' ⟨rfl, rfl⟩
  by_cases hsz : code.length + more.length ≤ 1048576
  case neg =>
    have HZ := Lib.hid (show (!decide (code.length + more.length ≤ 1048576)) = true by simp; omega)
    rw [HZ.out]
    go_wp2_with fail
    go_ret
    exact ⟨rfl, (Below.refl _ _)⟩
  have HZ := Lib.hid (show (!decide (code.length + more.length ≤ 1048576)) = false by simp; omega)
  rw [HZ.out]
  go_wp2_with fail
  refine (DrawSumsTo_any _ code lo1 hi1 _ F1.out (by omega) HB1.out (by omega)).mono ?_
  rintro e W1 ⟨r1, l, n, rfl, hll, hr1, hb1⟩
  have hg1 := grown_below hb1; clear hb1
  have hs1 := hg1.size
  have HF1 := Lib.hid ((Turned.refl w.heap.size w.heap.size w).still hg1)
  have R1 := Lib.hid hr1; clear hr1
  obtain ⟨A3, c3, rfl, hc3, hd3⟩ := IntS.dims R1.out
  go_wp2_with fail
  refine (SumsTo_impl _ l _ _ n _ R1.out (by omega) (by omega)).mono ?_
  rintro e W2 ⟨q1, rfl, hq1, hb2⟩
  have hg2 := grown_below hb2; clear hb2
  have hs2 := hg2.size
  have HF2 := Lib.hid (HF1.out.still hg2); clear HF1
  have R2 := Lib.hid (IntS.still R1.out hg2 (by omega)); clear R1
  have Q12 := Lib.hid hq1; clear hq1
  obtain ⟨A4, c4, rfl, hc4, hd4⟩ := IntS.dims Q12.out
  go_wp2_with fail
  refine (SumsTo_spec _ l _ _ n _ R2.out (by omega) (by omega)).mono ?_
  rintro e W3 ⟨q2, rfl, hq2, hb3⟩
  have hg3 := grown_below hb3; clear hb3
  have hs3 := hg3.size
  have HF3 := Lib.hid (HF2.out.still hg3); clear HF2
  have R3 := Lib.hid (IntS.still R2.out hg3 (by omega)); clear R2
  have Q13 := Lib.hid (IntS.still Q12.out hg3 (by omega)); clear Q12
  have Q23 := Lib.hid hq2; clear hq2
  obtain ⟨A5, c5, rfl, hc5, hd5⟩ := IntS.dims Q23.out
  obtain ⟨ok, HOK⟩ : ∃ b, Hid (sumsOk l n = b) := ⟨_, Lib.hid rfl⟩
  obtain ⟨xs, HXS⟩ : ∃ x, Hid (sumsV l n = x) := ⟨_, Lib.hid rfl⟩
  rw [HOK.out]
  rw [HXS.out] at Q13 Q23 hc4 hc5
  rw [HXS.out]
  obtain ⟨xl, HXL⟩ : ∃ x, Hid (xs.length = x) := ⟨_, Lib.hid rfl⟩
  obtain ⟨zl, HZL⟩ : ∃ x, Hid (l.length = x) := ⟨_, Lib.hid rfl⟩
  have hnb : (ok != ok) = false := by simp
  go_wp2_with fail
  refine (sameInts_same _ xs _ _ _ xs _ _ _ Q13.out (by omega) Q23.out (by omega) rfl).mono ?_
  rintro e W4 ⟨rfl, hb4⟩
  have hg4 := grown_below hb4; clear hb4
  have hs4 := hg4.size
  have HF4 := Lib.hid (HF3.out.still hg4); clear HF3
  have R4 := Lib.hid (IntS.still R3.out hg4 (by omega)); clear R3
  have Q14 := Lib.hid (IntS.still Q13.out hg4 (by omega)); clear Q13
  have Q24 := Lib.hid (IntS.still Q23.out hg4 (by omega)); clear Q23
  cases ok with
  | false =>
    go_wp2_with fail
    refine (DrawConductorOf_any _ more lo2 hi2 _ (ByS.turned F2.out HF4.out (by omega) (by omega)) (by omega) HB2.out (by omega)).mono ?_
    rintro e W5 ⟨r2, m, rfl, hml, hr2, hb5⟩
    have hg5 := grown_below hb5; clear hb5
    have hs5 := hg5.size
    have HF5 := Lib.hid (HF4.out.still hg5); clear HF4
    have R5 := Lib.hid (IntS.still R4.out hg5 (by omega)); clear R4
    have Q15 := Lib.hid (IntS.still Q14.out hg5 (by omega)); clear Q14
    have Q25 := Lib.hid (IntS.still Q24.out hg5 (by omega)); clear Q24
    have M5 := Lib.hid hr2; clear hr2
    obtain ⟨A6, c6, rfl, hc6, hd6⟩ := IntS.dims M5.out
    go_wp2_with fail
    refine (ConductorOf_impl _ m _ _ _ M5.out (by omega) (by omega)).mono ?_
    rintro e W6 ⟨rfl, hb6⟩
    have hg6 := grown_below hb6; clear hb6
    have hs6 := hg6.size
    have HF6 := Lib.hid (HF5.out.still hg6); clear HF5
    have R6 := Lib.hid (IntS.still R5.out hg6 (by omega)); clear R5
    have Q16 := Lib.hid (IntS.still Q15.out hg6 (by omega)); clear Q15
    have Q26 := Lib.hid (IntS.still Q25.out hg6 (by omega)); clear Q25
    have M6 := Lib.hid (IntS.still M5.out hg6 (by omega)); clear M5
    go_wp2_with fail
    refine (ConductorOf_spec _ m _ _ _ M6.out (by omega) (by omega)).mono ?_
    rintro e W7 ⟨rfl, hb7⟩
    have hg7 := grown_below hb7; clear hb7
    have hs7 := hg7.size
    have HF7 := Lib.hid (HF6.out.still hg7); clear HF6
    have R7 := Lib.hid (IntS.still R6.out hg7 (by omega)); clear R6
    have Q17 := Lib.hid (IntS.still Q16.out hg7 (by omega)); clear Q16
    have Q27 := Lib.hid (IntS.still Q26.out hg7 (by omega)); clear Q26
    have M7 := Lib.hid (IntS.still M6.out hg7 (by omega)); clear M6
    go_wp2_with fail
    refine (GcdOf_impl _ m _ _ _ M7.out (by omega)).mono ?_
    rintro e W8 ⟨rfl, hb8⟩
    have hg8 := grown_below hb8; clear hb8
    have hs8 := hg8.size
    have HF8 := Lib.hid (HF7.out.still hg8); clear HF7
    have R8 := Lib.hid (IntS.still R7.out hg8 (by omega)); clear R7
    have Q18 := Lib.hid (IntS.still Q17.out hg8 (by omega)); clear Q17
    have Q28 := Lib.hid (IntS.still Q27.out hg8 (by omega)); clear Q27
    have M8 := Lib.hid (IntS.still M7.out hg8 (by omega)); clear M7
    go_wp2_with fail
    refine (GcdOf_spec _ m _ _ _ M8.out (by omega)).mono ?_
    rintro e W9 ⟨rfl, hb9⟩
    have hg9 := grown_below hb9; clear hb9
    have hs9 := hg9.size
    have HF9 := Lib.hid (HF8.out.still hg9); clear HF8
    have R9 := Lib.hid (IntS.still R8.out hg9 (by omega)); clear R8
    have Q19 := Lib.hid (IntS.still Q18.out hg9 (by omega)); clear Q18
    have Q29 := Lib.hid (IntS.still Q28.out hg9 (by omega)); clear Q28
    have M9 := Lib.hid (IntS.still M8.out hg9 (by omega)); clear M8
    obtain ⟨one, HONE⟩ : ∃ b, Hid (lensB m = b) := ⟨_, Lib.hid rfl⟩
    obtain ⟨cz, HCZ⟩ : ∃ x, Hid (cndZ m = x) := ⟨_, Lib.hid rfl⟩
    obtain ⟨gz, HGZ⟩ : ∃ x, Hid (gcdZ m = x) := ⟨_, Lib.hid rfl⟩
    rw [HONE.out, HCZ.out, HGZ.out]
    have ho1 : (one != one) = false := by simp
    have ho2 : (cz != cz) = false := by simp
    have ho3 : (gz != gz) = false := by simp
    cases one with
    | false =>
      go_wp2_with fail
      go_ret
      exact ⟨rfl, (HF9.out.below_of (Below.refl _ _) (by omega) (by omega))⟩
    | true =>
    obtain ⟨c, g, q, h1, h2, hg1, hg2, hc1, hq, hqg, hall, hlast⟩ := cnd_yes HONE.out
    obtain rfl : cz = (c : Int) := by rw [← HCZ.out, h1]
    obtain rfl : gz = (g : Int) := by rw [← HGZ.out, h2]
    clear h1 h2
    have HALL := Lib.hid hall; clear hall
    have HLAST := Lib.hid hlast; clear hlast
    have HQ := Lib.hid hq; clear hq
    obtain ⟨a, HA⟩ : ∃ a, Hid (q * g = a) := ⟨_, Lib.hid rfl⟩
    rw [HA.out] at HALL HLAST hqg
    obtain ⟨s, HS⟩ : ∃ s, Hid (c + g - 1 = s) := ⟨_, Lib.hid rfl⟩
    rw [HS.out] at HQ
    have htd := tdivN s g
    rw [HQ.out] at htd
    have hgl : ¬ (g : Int) < 1 := by omega
    have hgz : ¬ (g : Int) = 0 := by omega
    have hge : ((g : Int) == 0) = false := by simp; omega
    have hw1 : IntKind.i64.wrap ((c : Int) + (g : Int)) = ((c + g : Nat) : Int) := by rw [IntWalk.i64_in _ (by omega)]; omega
    obtain ⟨b, HB⟩ : ∃ b, Hid (c + g = b) := ⟨_, Lib.hid rfl⟩
    rw [HB.out] at hw1
    have hw2 : IntKind.i64.wrap ((b : Int) - 1) = (s : Int) := by rw [IntWalk.i64_in _ (by have := HB.out; omega)]; have := HB.out; have := HS.out; omega
    have hq2 : q ≤ 2000 := by have h3 := Nat.le_mul_of_pos_right q hg1; rw [HA.out] at h3; omega
    have hw3 : IntKind.i64.wrap ((q : Int) * (g : Int)) = (a : Int) := by rw [← Int.natCast_mul, HA.out]; exact IntWalk.i64_in _ (by omega)
    go_wp2_with fail
    have code_9 := Lib.hid (ByS.turned F1.out HF9.out (by omega) (by omega)); clear F1
    have more_9 := Lib.hid (ByS.turned F2.out HF9.out (by omega) (by omega)); clear F2
    have hbA9 : Below w.heap.size w W9 := (HF9.out.below_of (Below.refl _ _) (by omega) (by omega)); clear  HF9
    go_loopw [24] (fun kv wr => ∃ (k : Nat), k ≤ 3 ∧ kv = .int .i64 k ∧ W9.heap.size ≤ wr.heap.size ∧ Hid (Turned W9.heap.size W9.heap.size W9 wr)) (fun kv _ => 3 - (intOf kv).toNat)
    case atStart => exact ⟨0, by omega, rfl, Nat.le_refl _, Lib.hid (Turned.refl W9.heap.size W9.heap.size W9)⟩
    case round =>
      obtain ⟨k, hk, rfl, hz, HF10⟩ := hrel
      have hs10 := HF10.out.size
      obtain ⟨wq, rfl⟩ : ∃ wq : World, wq = wr := ⟨_, rfl⟩
      by_cases hk3 : k < 3
      case pos =>
        have hk3i : (k : Int) < 3 := by omega
        obtain ⟨e2, HE2⟩ : ∃ e2, Hid (k * g = e2) := ⟨_, Lib.hid rfl⟩
        have hkg : e2 ≤ 120 := by rw [← HE2.out]; have h1 : k * g ≤ 2 * g := Nat.mul_le_mul_right _ (by omega); omega
        have hw4 : IntKind.i64.wrap ((k : Int) * (g : Int)) = (e2 : Int) := by rw [← Int.natCast_mul, HE2.out]; exact IntWalk.i64_in _ (by omega)
        obtain ⟨f2, HF2⟩ : ∃ f2, Hid (a + e2 = f2) := ⟨_, Lib.hid rfl⟩
        have hf2 : f2 ≤ 2000 := by have := HF2.out; omega
        have hw5 : IntKind.i64.wrap ((a : Int) + (e2 : Int)) = (f2 : Int) := by rw [IntWalk.i64_in _ (by omega)]; have := HF2.out; omega
        have hf3 : (f2 : Int) ≤ 2000 := by omega
        have HOKK := Lib.hid (show sumsOk m (f2 : Int) = true by have h1 := HALL.out k hk3; rw [HE2.out, HF2.out] at h1; exact h1)
        go_wp2_with fail
        refine (SumsTo_impl _ m _ _ (f2 : Int) _ (IntS.turned M9.out HF10.out (by omega) (by omega)) (by omega) (by omega)).mono ?_
        rintro e W11 ⟨q3, rfl, hq3, hb11⟩
        have hg11 := grown_below hb11; clear hb11
        have hs11 := hg11.size
        have HF11 := Lib.hid (HF10.out.still hg11); clear HF10
        rw [HOKK.out]
        have Q311 := Lib.hid hq3; clear hq3
        obtain ⟨A7, c7, rfl, hc7, hd7⟩ := IntS.dims Q311.out
        go_wp2_with fail
        go_roundw
        case rel => exact ⟨k + 1, by omega, by go_num, by omega, HF11⟩
        case measure => simp [intOf]; omega
      obtain rfl : k = 3 := by omega
      by_cases hag : g ≤ a
      case neg =>
        have hagi : ¬ (g : Int) ≤ (a : Int) := by omega
        go_wp2_with fail
        go_ret
        exact ⟨rfl, (HF10.out.below_of hbA9 (by omega) (by omega))⟩
      have hagi : (g : Int) ≤ (a : Int) := by omega
      obtain ⟨d, HD⟩ : ∃ d, Hid (a - g = d) := ⟨_, Lib.hid rfl⟩
      have HOKK := Lib.hid (show sumsOk m (d : Int) = false by have h1 := HLAST.out hag; rw [HD.out] at h1; exact h1)
      have hd2 : d ≤ 1640 := by have := HD.out; omega
      have hw4 : IntKind.i64.wrap ((a : Int) - (g : Int)) = (d : Int) := by rw [IntWalk.i64_in _ (by omega)]; have := HD.out; omega
      have hd3 : ¬ (2000 : Int) < (d : Int) := by omega
      go_wp2_with fail
      refine (SumsTo_impl _ m _ _ (d : Int) _ (IntS.turned M9.out HF10.out (by omega) (by omega)) (by omega) (by omega)).mono ?_
      rintro e W12 ⟨q3, rfl, hq3, hb12⟩
      have hg12 := grown_below hb12; clear hb12
      have hs12 := hg12.size
      have HF12 := Lib.hid (HF10.out.still hg12); clear HF10
      rw [HOKK.out]
      have Q312 := Lib.hid hq3; clear hq3
      obtain ⟨A7, c7, rfl, hc7, hd7⟩ := IntS.dims Q312.out
      go_wp2_with fail
      refine (SumsTo_spec _ m _ _ (d : Int) _ (IntS.turned M9.out HF12.out (by omega) (by omega)) (by omega) (by omega)).mono ?_
      rintro e W13 ⟨q4, rfl, hq4, hb13⟩
      have hg13 := grown_below hb13; clear hb13
      have hs13 := hg13.size
      have HF13 := Lib.hid (HF12.out.still hg13); clear HF12
      have Q313 := Lib.hid (IntS.still Q312.out hg13 (by omega)); clear Q312
      rw [HOKK.out]
      have Q413 := Lib.hid hq4; clear hq4
      obtain ⟨A8, c8, rfl, hc8, hd8⟩ := IntS.dims Q413.out
      go_wp2_with fail
      go_ret
      exact ⟨rfl, (HF13.out.below_of hbA9 (by omega) (by omega))⟩
  | true =>
    obtain ⟨ll, N, hzl, hn, hN, hlen, hv, hpl, hdot⟩ := sums_yes HOK.out
    subst hn
    rw [HXS.out] at hv
    have HXN := Lib.hid hv; clear hv
    have HLN := Lib.hid hzl; clear hzl
    obtain ⟨pp, HPP⟩ : ∃ pp, Hid (partsN ll N = pp) := ⟨_, Lib.hid rfl⟩
    rw [HPP.out] at HXN hpl hdot
    have HPL := Lib.hid hpl; clear hpl
    have HDOT := Lib.hid hdot; clear hdot
    have HLZ := Lib.hid (show ll.length = zl by rw [← HZL.out, HLN.out, natL_length])
    have hxz : xl = zl := by rw [← HXL.out, HXN.out, natL_length, HPL.out, HLZ.out]
    subst hxz
    rw [HXL.out] at hc4 hc5 Q14 Q24
    rw [HZL.out] at hc3 R4
    try rw [HXL.out]
    try rw [HZL.out]
    go_wp2_with fail
    have code_13 := Lib.hid (ByS.turned F1.out HF4.out (by omega) (by omega)); clear F1
    have more_13 := Lib.hid (ByS.turned F2.out HF4.out (by omega) (by omega)); clear F2
    have hbA13 : Below w.heap.size w W4 := (HF4.out.below_of (Below.refl _ _) (by omega) (by omega)); clear  HF4
    go_loop [11, 63] (fun sv iv => ∃ (i sm : Nat), i ≤ xl ∧ iv = .int .i64 i ∧ sv = .int .i64 sm ∧ Hid (sm = dotI pp ll i)) (fun sv iv => xl - (intOf iv).toNat)
    case atStart => exact ⟨0, 0, Nat.zero_le _, rfl, rfl, Lib.hid rfl⟩
    case round =>
      obtain ⟨i, sm, hi, rfl, rfl, HSM⟩ := hrel
      by_cases hil : i < xl
      case pos =>
        have hili : (i : Int) < xl := by omega
        obtain ⟨b1, o1, rfl, _, hbb1, x1, _⟩ := IntS.opened R4.out (j := i) (by rw [HZL.out]; exact hil)
        obtain ⟨b2, o2, rfl, _, hbb2, x2, _⟩ := IntS.opened Q14.out (j := i) (by rw [HXL.out]; exact hil)
        have hpi : i < pp.length := by rw [HPL.out, HLZ.out]; exact hil
        have hli : i < ll.length := by rw [HLZ.out]; exact hil
        rw [HLN.out, natL_nth hli] at x1
        rw [HXN.out, natL_nth hpi] at x2
        have hds : dotI pp ll (i + 1) = sm + pp.getD i 0 * ll.getD i 0 := by rw [HSM.out]; rfl
        have hdm : dotI pp ll (i + 1) ≤ N := by have h1 := dotI_mono pp ll (show i + 1 ≤ ll.length by omega); rw [HDOT.out] at h1; exact h1
        have hxk := hlen.is _ (getD_mem hli)
        obtain ⟨u, HU⟩ : ∃ u, Hid (pp.getD i 0 = u) := ⟨_, Lib.hid rfl⟩
        obtain ⟨y, HY⟩ : ∃ y, Hid (ll.getD i 0 = y) := ⟨_, Lib.hid rfl⟩
        rw [HU.out] at x2 hds
        rw [HY.out] at x1 hds hxk
        obtain ⟨p, HP⟩ : ∃ p, Hid (u * y = p) := ⟨_, Lib.hid rfl⟩
        rw [HP.out] at hds
        have hpN : p ≤ 2000 := by omega
        have hsN : sm + p ≤ 2000 := by omega
        have HDS := Lib.hid hds
        clear hds hdm hpi hli
        have hw1 : IntKind.i64.wrap ((u : Int) * (y : Int)) = (p : Int) := by rw [← Int.natCast_mul, HP.out]; exact IntWalk.i64_in _ (by omega)
        have hw2 : IntKind.i64.wrap ((sm : Int) + (p : Int)) = ((sm + p : Nat) : Int) := by rw [IntWalk.i64_in _ (by omega)]; omega
        obtain ⟨s2, HS2⟩ : ∃ s2, Hid (sm + p = s2) := ⟨_, Lib.hid rfl⟩
        rw [HS2.out] at hw2
        go_wp2_with fail
        go_round
        case rel => exact ⟨i + 1, s2, by omega, by go_num, rfl, Lib.hid (by rw [HDS.out, HS2.out])⟩
        case measure => simp [intOf]; omega
      obtain rfl : i = xl := by omega
      obtain rfl : sm = N := by rw [HSM.out, ← HLZ.out]; exact HDOT.out
      have hne1 : ((sm : Int) != (sm : Int)) = false := by simp
      have hne2 : ((i : Int) != (i : Int)) = false := by simp
      go_wp2_with fail
      refine (DrawConductorOf_any _ more lo2 hi2 _ more_13.out (by omega) HB2.out (by omega)).mono ?_
      rintro e W15 ⟨r2, m, rfl, hml, hr2, hb15⟩
      have hg15 := grown_below hb15; clear hb15
      have hs15 := hg15.size
      have HF15 := Lib.hid ((Turned.refl W4.heap.size W4.heap.size W4).still hg15)
      have M15 := Lib.hid hr2; clear hr2
      obtain ⟨A6, c6, rfl, hc6, hd6⟩ := IntS.dims M15.out
      go_wp2_with fail
      refine (ConductorOf_impl _ m _ _ _ M15.out (by omega) (by omega)).mono ?_
      rintro e W16 ⟨rfl, hb16⟩
      have hg16 := grown_below hb16; clear hb16
      have hs16 := hg16.size
      have HF16 := Lib.hid (HF15.out.still hg16); clear HF15
      have M16 := Lib.hid (IntS.still M15.out hg16 (by omega)); clear M15
      go_wp2_with fail
      refine (ConductorOf_spec _ m _ _ _ M16.out (by omega) (by omega)).mono ?_
      rintro e W17 ⟨rfl, hb17⟩
      have hg17 := grown_below hb17; clear hb17
      have hs17 := hg17.size
      have HF17 := Lib.hid (HF16.out.still hg17); clear HF16
      have M17 := Lib.hid (IntS.still M16.out hg17 (by omega)); clear M16
      go_wp2_with fail
      refine (GcdOf_impl _ m _ _ _ M17.out (by omega)).mono ?_
      rintro e W18 ⟨rfl, hb18⟩
      have hg18 := grown_below hb18; clear hb18
      have hs18 := hg18.size
      have HF18 := Lib.hid (HF17.out.still hg18); clear HF17
      have M18 := Lib.hid (IntS.still M17.out hg18 (by omega)); clear M17
      go_wp2_with fail
      refine (GcdOf_spec _ m _ _ _ M18.out (by omega)).mono ?_
      rintro e W19 ⟨rfl, hb19⟩
      have hg19 := grown_below hb19; clear hb19
      have hs19 := hg19.size
      have HF19 := Lib.hid (HF18.out.still hg19); clear HF18
      have M19 := Lib.hid (IntS.still M18.out hg19 (by omega)); clear M18
      obtain ⟨one, HONE⟩ : ∃ b, Hid (lensB m = b) := ⟨_, Lib.hid rfl⟩
      obtain ⟨cz, HCZ⟩ : ∃ x, Hid (cndZ m = x) := ⟨_, Lib.hid rfl⟩
      obtain ⟨gz, HGZ⟩ : ∃ x, Hid (gcdZ m = x) := ⟨_, Lib.hid rfl⟩
      rw [HONE.out, HCZ.out, HGZ.out]
      have ho1 : (one != one) = false := by simp
      have ho2 : (cz != cz) = false := by simp
      have ho3 : (gz != gz) = false := by simp
      cases one with
      | false =>
        go_wp2_with fail
        go_ret
        exact ⟨rfl, (HF19.out.below_of hbA13 (by omega) (by omega))⟩
      | true =>
      obtain ⟨c, g, q, h1, h2, hg1, hg2, hc1, hq, hqg, hall, hlast⟩ := cnd_yes HONE.out
      obtain rfl : cz = (c : Int) := by rw [← HCZ.out, h1]
      obtain rfl : gz = (g : Int) := by rw [← HGZ.out, h2]
      clear h1 h2
      have HALL := Lib.hid hall; clear hall
      have HLAST := Lib.hid hlast; clear hlast
      have HQ := Lib.hid hq; clear hq
      obtain ⟨a, HA⟩ : ∃ a, Hid (q * g = a) := ⟨_, Lib.hid rfl⟩
      rw [HA.out] at HALL HLAST hqg
      obtain ⟨s, HS⟩ : ∃ s, Hid (c + g - 1 = s) := ⟨_, Lib.hid rfl⟩
      rw [HS.out] at HQ
      have htd := tdivN s g
      rw [HQ.out] at htd
      have hgl : ¬ (g : Int) < 1 := by omega
      have hgz : ¬ (g : Int) = 0 := by omega
      have hge : ((g : Int) == 0) = false := by simp; omega
      have hw1 : IntKind.i64.wrap ((c : Int) + (g : Int)) = ((c + g : Nat) : Int) := by rw [IntWalk.i64_in _ (by omega)]; omega
      obtain ⟨b, HB⟩ : ∃ b, Hid (c + g = b) := ⟨_, Lib.hid rfl⟩
      rw [HB.out] at hw1
      have hw2 : IntKind.i64.wrap ((b : Int) - 1) = (s : Int) := by rw [IntWalk.i64_in _ (by have := HB.out; omega)]; have := HB.out; have := HS.out; omega
      have hq2 : q ≤ 2000 := by have h3 := Nat.le_mul_of_pos_right q hg1; rw [HA.out] at h3; omega
      have hw3 : IntKind.i64.wrap ((q : Int) * (g : Int)) = (a : Int) := by rw [← Int.natCast_mul, HA.out]; exact IntWalk.i64_in _ (by omega)
      go_wp2_with fail
      have code_19 := Lib.hid (ByS.turned code_13.out HF19.out (by omega) (by omega)); clear code_13
      have more_19 := Lib.hid (ByS.turned more_13.out HF19.out (by omega) (by omega)); clear more_13
      have R_19 := Lib.hid (IntS.turned R4.out HF19.out (by omega) (by omega)); clear R4
      have Q1_19 := Lib.hid (IntS.turned Q14.out HF19.out (by omega) (by omega)); clear Q14
      have Q2_19 := Lib.hid (IntS.turned Q24.out HF19.out (by omega) (by omega)); clear Q24
      have hbA19 : Below w.heap.size w W19 := (HF19.out.below_of hbA13 (by omega) (by omega)); clear hbA13 HF19
      go_loopw [24] (fun kv wr => ∃ (k : Nat), k ≤ 3 ∧ kv = .int .i64 k ∧ W19.heap.size ≤ wr.heap.size ∧ Hid (Turned W19.heap.size W19.heap.size W19 wr)) (fun kv _ => 3 - (intOf kv).toNat)
      case atStart => exact ⟨0, by omega, rfl, Nat.le_refl _, Lib.hid (Turned.refl W19.heap.size W19.heap.size W19)⟩
      case round =>
        obtain ⟨k, hk, rfl, hz, HF20⟩ := hrel
        have hs20 := HF20.out.size
        obtain ⟨wq, rfl⟩ : ∃ wq : World, wq = wr := ⟨_, rfl⟩
        by_cases hk3 : k < 3
        case pos =>
          have hk3i : (k : Int) < 3 := by omega
          obtain ⟨e2, HE2⟩ : ∃ e2, Hid (k * g = e2) := ⟨_, Lib.hid rfl⟩
          have hkg : e2 ≤ 120 := by rw [← HE2.out]; have h1 : k * g ≤ 2 * g := Nat.mul_le_mul_right _ (by omega); omega
          have hw4 : IntKind.i64.wrap ((k : Int) * (g : Int)) = (e2 : Int) := by rw [← Int.natCast_mul, HE2.out]; exact IntWalk.i64_in _ (by omega)
          obtain ⟨f2, HF2⟩ : ∃ f2, Hid (a + e2 = f2) := ⟨_, Lib.hid rfl⟩
          have hf2 : f2 ≤ 2000 := by have := HF2.out; omega
          have hw5 : IntKind.i64.wrap ((a : Int) + (e2 : Int)) = (f2 : Int) := by rw [IntWalk.i64_in _ (by omega)]; have := HF2.out; omega
          have hf3 : (f2 : Int) ≤ 2000 := by omega
          have HOKK := Lib.hid (show sumsOk m (f2 : Int) = true by have h1 := HALL.out k hk3; rw [HE2.out, HF2.out] at h1; exact h1)
          go_wp2_with fail
          refine (SumsTo_impl _ m _ _ (f2 : Int) _ (IntS.turned M19.out HF20.out (by omega) (by omega)) (by omega) (by omega)).mono ?_
          rintro e W21 ⟨q3, rfl, hq3, hb21⟩
          have hg21 := grown_below hb21; clear hb21
          have hs21 := hg21.size
          have HF21 := Lib.hid (HF20.out.still hg21); clear HF20
          rw [HOKK.out]
          have Q321 := Lib.hid hq3; clear hq3
          obtain ⟨A7, c7, rfl, hc7, hd7⟩ := IntS.dims Q321.out
          go_wp2_with fail
          go_roundw
          case rel => exact ⟨k + 1, by omega, by go_num, by omega, HF21⟩
          case measure => simp [intOf]; omega
        obtain rfl : k = 3 := by omega
        by_cases hag : g ≤ a
        case neg =>
          have hagi : ¬ (g : Int) ≤ (a : Int) := by omega
          go_wp2_with fail
          go_ret
          exact ⟨rfl, (HF20.out.below_of hbA19 (by omega) (by omega))⟩
        have hagi : (g : Int) ≤ (a : Int) := by omega
        obtain ⟨d, HD⟩ : ∃ d, Hid (a - g = d) := ⟨_, Lib.hid rfl⟩
        have HOKK := Lib.hid (show sumsOk m (d : Int) = false by have h1 := HLAST.out hag; rw [HD.out] at h1; exact h1)
        have hd2 : d ≤ 1640 := by have := HD.out; omega
        have hw4 : IntKind.i64.wrap ((a : Int) - (g : Int)) = (d : Int) := by rw [IntWalk.i64_in _ (by omega)]; have := HD.out; omega
        have hd3 : ¬ (2000 : Int) < (d : Int) := by omega
        go_wp2_with fail
        refine (SumsTo_impl _ m _ _ (d : Int) _ (IntS.turned M19.out HF20.out (by omega) (by omega)) (by omega) (by omega)).mono ?_
        rintro e W22 ⟨q3, rfl, hq3, hb22⟩
        have hg22 := grown_below hb22; clear hb22
        have hs22 := hg22.size
        have HF22 := Lib.hid (HF20.out.still hg22); clear HF20
        rw [HOKK.out]
        have Q322 := Lib.hid hq3; clear hq3
        obtain ⟨A7, c7, rfl, hc7, hd7⟩ := IntS.dims Q322.out
        go_wp2_with fail
        refine (SumsTo_spec _ m _ _ (d : Int) _ (IntS.turned M19.out HF22.out (by omega) (by omega)) (by omega) (by omega)).mono ?_
        rintro e W23 ⟨q4, rfl, hq4, hb23⟩
        have hg23 := grown_below hb23; clear hb23
        have hs23 := hg23.size
        have HF23 := Lib.hid (HF22.out.still hg23); clear HF22
        have Q323 := Lib.hid (IntS.still Q322.out hg23 (by omega)); clear Q322
        rw [HOKK.out]
        have Q423 := Lib.hid hq4; clear hq4
        obtain ⟨A8, c8, rfl, hc8, hd8⟩ := IntS.dims Q423.out
        go_wp2_with fail
        go_ret
        exact ⟨rfl, (HF23.out.below_of hbA19 (by omega) (by omega))⟩

end Go.Proofs.Ytanikenkfnhicaa
