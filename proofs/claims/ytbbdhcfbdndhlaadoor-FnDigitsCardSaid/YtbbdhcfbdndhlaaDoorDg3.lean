/-
  Contracts: BitAt, BitLength, sums, primes (program and reference).
-/
import Derived.Test.YtbbdhcfbdndhlaaDoorDg2
import Derived.Test.YtbbdhcfbdndhlaaDoorShelf
namespace Go.Proofs.YtbbdhcfbdndhlaaDoor
open Go.ChangeShapes Go.WideShapes Go.ChangeAt Go.RowKit
set_option linter.unusedVariables false

theorem andC_i64 (m : Nat) (hm : m < 9223372036854775808) : bits .and .i64 (m : Int) 1 = ((m % 2 : Nat) : Int) := by
  have h1 : (BitVec.ofInt 64 (m : Int)).toNat = m := by
    rw [BitVec.ofInt_natCast, BitVec.toNat_ofNat]; exact Nat.mod_eq_of_lt (by omega)
  have h2 : (BitVec.ofInt 64 1).toNat = 1 := by decide
  show IntKind.i64.wrap ((BitVec.ofInt 64 (m : Int) &&& BitVec.ofInt 64 1).toNat : Int) = _
  rw [BitVec.toNat_and, h1, h2, Nat.and_one_is_mod, IntWalk.i64_in _ (by omega)]
theorem powC (N i : Nat) : (N : Int) / 2 ^ i = ((N / 2 ^ i : Nat) : Int) := by
  rw [Int.natCast_ediv, Int.natCast_pow]; rfl
theorem bitC (N i : Nat) (hN : N ≤ 1000000000000) : bits .and .i64 ((N : Int) / 2 ^ i) 1 = ((bitN N i : Nat) : Int) := by
  rw [powC, andC_i64 _ (by have := div_le' N 2 i; omega)]; rfl

set_option maxHeartbeats 2000000 in
set_option maxRecDepth 100000 in
theorem BitAt_any (N : Nat) (i : Nat) (w : World)  (hN : N ≤ 1000000000000) (hi : i ≤ 63) :
    Calls Tryd.prog 13 #[.int .i64 (N : Nat), .int .i64 (i : Nat)] w fun e w' => e = .returned (.tuple #[.int .i64 (bitN N i : Nat), .bool true]) ∧ w = w' := by
  go_enter Tryd.func13, Tryd.ntmps13
  have ha : inB (N : Int) 0 1000000000000 = true := inB_true (by omega) (by omega)
  have hb : inB (i : Int) 0 63 = true := inB_true (by omega) (by omega)
  have hbit := bitC N i hN
  go_wp2_with (first | (go_at_call 23; refine (isWhole_any _ _).mono ?_; rintro e w' ⟨rfl, rfl⟩) | (go_at_call 24; refine (within_any _ _ _ _).mono ?_; rintro e w' ⟨rfl, rfl⟩))
  go_ret2
  exact ⟨by first | rfl | (rw [← hbit]; rfl), rfl⟩

set_option maxHeartbeats 2000000 in
set_option maxRecDepth 100000 in
theorem BitLength_any (N : Nat) (w : World)  (hN : N ≤ 1000000000000) :
    Calls Tryd.prog 14 #[.int .i64 (N : Nat)] w fun e w' => e = .returned (.tuple #[.int .i64 (Lib.bitLen N : Nat), .bool true]) ∧ w = w' := by
  go_enter Tryd.func14, Tryd.ntmps14
  have ha : inB (N : Int) 0 1000000000000 = true := inB_true (by omega) (by omega)
  go_wp2_with (go_at_call 23; refine (isWhole_any _ _).mono ?_; rintro e w' ⟨rfl, rfl⟩)
  refine (Tryd.bits_Len64 _ _ (by omega) (by omega)).mono ?_
  rintro e w' ⟨rfl, rfl⟩
  go_wp2_with fail
  go_ret2
  exact ⟨by rfl, rfl⟩

set_option maxHeartbeats 2000000 in
set_option maxRecDepth 100000 in
theorem qSum_any (v1 : Value) (Z : List Int) (lo1 hi1 : Nat) (w : World) (h1 : IntS w lo1 hi1 v1 Z) (hh1 : hi1 ≤ w.heap.size) (hz : ∀ x ∈ Z, 0 ≤ x ∧ x ≤ 1) (hl : Z.length ≤ 64) :
    Calls Tryd.prog 15 #[v1] w fun e w' => e = .returned (.int .i64 (sumI Z)) ∧ w = w' := by
  have HZ := Lib.hid hz; clear hz
  have F1 := Lib.hid h1
  obtain ⟨A1, c1, rfl, hc1, hd1⟩ := h1.dims
  clear h1
  go_enter Tryd.func15, Tryd.ntmps15
  go_wp2_with fail
  go_loop [3, 8] (fun sv kv => ∃ (k : Nat) (s : Int), k ≤ Z.length ∧ kv = .int .i64 k ∧ sv = .int .i64 s ∧ Hid (s = sumI (Z.take k))) (fun sv kv => Z.length - (intOf kv).toNat)
  case atStart => exact ⟨0, 0, Nat.zero_le _, rfl, rfl, Lib.hid rfl⟩
  case round =>
    obtain ⟨k, s, hk, rfl, rfl, HS⟩ := hrel
    have hb := sumI_bits HZ.out k hk
    rw [← HS.out] at hb
    by_cases hkn : k < Z.length
    case neg =>
      obtain rfl : k = Z.length := by omega
      have HR := Lib.hid (show s = sumI Z by rw [HS.out, List.take_length])
      go_wp2_with fail
      go_ret
      exact ⟨ret_int HR.out, rfl⟩
    have hki : (k : Int) < Z.length := by omega
    have hx := HZ.out _ (nth_mem hkn)
    have HSN := Lib.hid (sumI_take hkn)
    obtain ⟨x, HX⟩ : ∃ x, Hid (nth Z k = x) := ⟨_, Lib.hid rfl⟩
    obtain ⟨be, oe, rfl, _, hbe', xe, _⟩ := F1.out.opened hkn
    rw [HX.out] at xe hx HSN
    go_wp2_with fail
    go_round
    case rel => exact ⟨k + 1, s + x, by omega, by go_num, by go_num, Lib.hid (by rw [HSN.out, HS.out])⟩
    case measure => simp [intOf]; omega

set_option maxHeartbeats 2000000 in
set_option maxRecDepth 100000 in
theorem isPrime_any (n : Int) (w : World)  (hn : n ≤ 1000003) (hn0 : -1000000 ≤ n) :
    Calls Tryd.prog 34 #[.int .i64 n] w fun e w' => e = .returned (.bool (primeB n.toNat)) ∧ w = w' := by
  go_enter Tryd.func34, Tryd.ntmps34
  go_wp2_with fail
  go_loop [3] (fun dv => ∃ (d : Nat), 2 ≤ d ∧ d ≤ 1100 ∧ dv = .int .i64 d ∧ Hid (∀ e, 2 ≤ e → e < d → ¬ n.toNat % e = 0)) (fun dv => 1200 - (intOf dv).toNat)
  case atStart => exact ⟨2, by omega, by omega, rfl, Lib.hid (fun e h1 h2 => absurd h1 (by omega))⟩
  case round =>
    obtain ⟨d, hd, hd2, rfl, HD⟩ := hrel
    obtain ⟨q, HQ⟩ : ∃ q : Nat, Hid (d * d = q) := ⟨_, Lib.hid rfl⟩
    have hq4 : 4 ≤ q := by rw [← HQ.out]; exact Nat.mul_le_mul hd hd
    have hq : q ≤ 1210000 := by rw [← HQ.out]; exact Nat.mul_le_mul hd2 hd2
    have hmm : (d : Int) * (d : Int) = (q : Int) := by rw [← HQ.out]; rfl
    have hd0 : ¬ (d : Int) = 0 := by omega
    have hdn : ¬ d = 0 := by omega
    by_cases hle : (q : Int) ≤ n
    case neg =>
      have HR := Lib.hid (show primeB n.toNat = decide (1 < n) by
        rw [primeB_yes HD.out (by rw [HQ.out]; omega), decide_eq_decide]; omega)
      by_cases h1 : 1 < n
      · rw [decide_eq_true h1] at HR
        go_wp2_with fail
        go_ret
        exact ⟨ret_bool HR.out.symm, rfl⟩
      · rw [decide_eq_false h1] at HR
        go_wp2_with fail
        go_ret
        exact ⟨ret_bool HR.out.symm, rfl⟩
    have hn1 : 0 ≤ n := by omega
    obtain ⟨m, rfl⟩ : ∃ m : Nat, n = m := ⟨n.toNat, by omega⟩
    rw [Int.toNat_natCast] at HD ⊢
    have hd1100 : d < 1100 := by
      rcases Nat.lt_or_ge d 1100 with h | h
      · exact h
      · have := Nat.mul_le_mul h h; have := HQ.out; omega
    obtain ⟨x, HX⟩ : ∃ x : Nat, Hid (m % d = x) := ⟨_, Lib.hid rfl⟩
    have hme : (m : Int) % (d : Int) = (x : Int) := by rw [← HX.out]; rfl
    have hxd : x < d := by rw [← HX.out]; exact Nat.mod_lt _ (by omega)
    by_cases hx0 : x = 0
    case pos =>
      have HR := Lib.hid (primeB_no (n := m) hd (by have := HQ.out; omega) (by rw [HX.out]; exact hx0))
      subst hx0
      go_wp2_with fail
      go_ret
      exact ⟨ret_bool HR.out.symm, rfl⟩
    have hxi : ¬ (x : Int) = 0 := by omega
    go_wp2_with fail
    go_round
    case rel => exact ⟨d + 1, by omega, by omega, by go_num, Lib.hid (fun e h1 h2 => if h : e = d then by rw [h, HX.out]; exact hx0 else HD.out e h1 (by omega))⟩
    case measure => simp [intOf]; omega

set_option maxHeartbeats 2000000 in
set_option maxRecDepth 100000 in
theorem nuPrime_any (n : Int) (w : World)  (hn : n ≤ 1000003) (hn0 : -1000000 ≤ n) :
    Calls Tryd.prog 42 #[.int .i64 n] w fun e w' => e = .returned (.bool (primeB n.toNat)) ∧ w = w' := by
  go_enter Tryd.func42, Tryd.ntmps42
  go_wp2_with fail
  go_loop [3] (fun dv => ∃ (d : Nat), 2 ≤ d ∧ d ≤ 1100 ∧ dv = .int .i64 d ∧ Hid (∀ e, 2 ≤ e → e < d → ¬ n.toNat % e = 0)) (fun dv => 1200 - (intOf dv).toNat)
  case atStart => exact ⟨2, by omega, by omega, rfl, Lib.hid (fun e h1 h2 => absurd h1 (by omega))⟩
  case round =>
    obtain ⟨d, hd, hd2, rfl, HD⟩ := hrel
    obtain ⟨q, HQ⟩ : ∃ q : Nat, Hid (d * d = q) := ⟨_, Lib.hid rfl⟩
    have hq4 : 4 ≤ q := by rw [← HQ.out]; exact Nat.mul_le_mul hd hd
    have hq : q ≤ 1210000 := by rw [← HQ.out]; exact Nat.mul_le_mul hd2 hd2
    have hmm : (d : Int) * (d : Int) = (q : Int) := by rw [← HQ.out]; rfl
    have hd0 : ¬ (d : Int) = 0 := by omega
    have hdn : ¬ d = 0 := by omega
    by_cases hle : (q : Int) ≤ n
    case neg =>
      have HR := Lib.hid (show primeB n.toNat = decide (1 < n) by
        rw [primeB_yes HD.out (by rw [HQ.out]; omega), decide_eq_decide]; omega)
      by_cases h1 : 1 < n
      · rw [decide_eq_true h1] at HR
        go_wp2_with fail
        go_ret
        exact ⟨ret_bool HR.out.symm, rfl⟩
      · rw [decide_eq_false h1] at HR
        go_wp2_with fail
        go_ret
        exact ⟨ret_bool HR.out.symm, rfl⟩
    have hn1 : 0 ≤ n := by omega
    obtain ⟨m, rfl⟩ : ∃ m : Nat, n = m := ⟨n.toNat, by omega⟩
    rw [Int.toNat_natCast] at HD ⊢
    have hd1100 : d < 1100 := by
      rcases Nat.lt_or_ge d 1100 with h | h
      · exact h
      · have := Nat.mul_le_mul h h; have := HQ.out; omega
    obtain ⟨x, HX⟩ : ∃ x : Nat, Hid (m % d = x) := ⟨_, Lib.hid rfl⟩
    have hme : (m : Int) % (d : Int) = (x : Int) := by rw [← HX.out]; rfl
    have hxd : x < d := by rw [← HX.out]; exact Nat.mod_lt _ (by omega)
    by_cases hx0 : x = 0
    case pos =>
      have HR := Lib.hid (primeB_no (n := m) hd (by have := HQ.out; omega) (by rw [HX.out]; exact hx0))
      subst hx0
      go_wp2_with fail
      go_ret
      exact ⟨ret_bool HR.out.symm, rfl⟩
    have hxi : ¬ (x : Int) = 0 := by omega
    go_wp2_with fail
    go_round
    case rel => exact ⟨d + 1, by omega, by omega, by go_num, Lib.hid (fun e h1 h2 => if h : e = d then by rw [h, HX.out]; exact hx0 else HD.out e h1 (by omega))⟩
    case measure => simp [intOf]; omega

set_option maxHeartbeats 2000000 in
set_option maxRecDepth 100000 in
theorem IsPrime_any (n : Nat) (w : World)  (hn : n ≤ 1000000) :
    Calls Tryd.prog 19 #[.int .i64 (n : Nat)] w fun e w' => e = .returned (.bool (primeB n)) ∧ w = w' := by
  go_enter Tryd.func19, Tryd.ntmps19
  have hni : (n : Int) ≤ 1000000 := by omega
  go_wp2_with (go_at_call 34; refine (isPrime_any _ _ (by omega) (by omega)).mono ?_; rintro e w' ⟨rfl, rfl⟩; rw [Int.toNat_natCast])
  go_ret
  exact ⟨rfl, rfl⟩

/-- the least prime from n on is at most 1000003 -/
def NextV (n : Int) (r : Nat) : Prop := NextP n.toNat r ∧ r ≤ 1000003

set_option maxHeartbeats 2000000 in
set_option maxRecDepth 100000 in
theorem NextPrime_impl (p : Int) (w : World)   :
    Calls Tryd.prog 17 #[.int .i64 p] w fun e w' => (inB p 0 1000000 = false ∧ e = .returned (.tuple #[.int .i64 0, .bool false]) ∧ w = w') ∨ (inB p 0 1000000 = true ∧ ∃ r : Nat, NextV p r ∧ e = .returned (.tuple #[.int .i64 r, .bool true]) ∧ w = w') := by
  go_enter Tryd.func17, Tryd.ntmps17
  by_cases ha : inB p 0 1000000 = true
  case neg =>
    have ha' : inB p 0 1000000 = false := by simpa using ha
    go_wp2_with (go_at_call 24; refine (within_any _ _ _ _).mono ?_; rintro e w' ⟨rfl, rfl⟩)
    go_ret2
    exact .inl ⟨ha', rfl, rfl⟩
  obtain ⟨h0, h1⟩ := inB_le ha
  go_wp2_with (go_at_call 24; refine (within_any _ _ _ _).mono ?_; rintro e w' ⟨rfl, rfl⟩)
  go_loop [0] (fun mv => ∃ (m : Nat), p.toNat ≤ m ∧ m ≤ 1000003 ∧ mv = .int .i64 m ∧ Hid (∀ s, p.toNat ≤ s → s < m → primeB s = false)) (fun mv => 1000004 - (intOf mv).toNat)
  case atStart => exact ⟨p.toNat, Nat.le_refl _, by omega, by rw [Int.toNat_of_nonneg h0], Lib.hid (fun s h1 h2 => absurd h2 (by omega))⟩
  case round =>
    obtain ⟨m, hm, hm2, rfl, HM⟩ := hrel
    go_wp2_with fail
    refine (isPrime_any _ _ (by omega) (by omega)).mono ?_
    rintro e w' ⟨rfl, rfl⟩
    rw [Int.toNat_natCast]
    cases hb : primeB m with
    | true =>
      have HB := Lib.hid hb; clear hb
      go_wp2_with fail
      go_ret2
      exact .inr ⟨ha, m, ⟨⟨hm, HB.out, HM.out⟩, hm2⟩, rfl, rfl⟩
    | false =>
      have hlt : m < 1000003 := by
        rcases Nat.lt_or_ge m 1000003 with h | h
        · exact h
        · rw [show m = 1000003 by omega, prime_1000003] at hb; cases hb
      have HB := Lib.hid hb; clear hb
      go_wp2_with fail
      go_round
      case rel => exact ⟨m + 1, by omega, by omega, by go_num, Lib.hid (fun s h1 h2 => if h : s = m then by rw [h]; exact HB.out else HM.out s h1 (by omega))⟩
      case measure => simp [intOf]; omega

set_option maxHeartbeats 2000000 in
set_option maxRecDepth 100000 in
theorem nuNext_any (p : Int) (w : World)  (h0 : 0 ≤ p) (h1 : p ≤ 1000000) :
    Calls Tryd.prog 35 #[.int .i64 p] w fun e w' => ∃ r : Nat, NextV p r ∧ e = .returned (.int .i64 r) ∧ w = w' := by
  go_enter Tryd.func35, Tryd.ntmps35
  go_wp2_with fail
  go_loop [0] (fun mv => ∃ (m : Nat), p.toNat ≤ m ∧ m ≤ 1000003 ∧ mv = .int .i64 m ∧ Hid (∀ s, p.toNat ≤ s → s < m → primeB s = false)) (fun mv => 1000004 - (intOf mv).toNat)
  case atStart => exact ⟨p.toNat, Nat.le_refl _, by omega, by rw [Int.toNat_of_nonneg h0], Lib.hid (fun s h1 h2 => absurd h2 (by omega))⟩
  case round =>
    obtain ⟨m, hm, hm2, rfl, HM⟩ := hrel
    go_wp2_with fail
    refine (nuPrime_any _ _ (by omega) (by omega)).mono ?_
    rintro e w' ⟨rfl, rfl⟩
    rw [Int.toNat_natCast]
    cases hb : primeB m with
    | true =>
      have HB := Lib.hid hb; clear hb
      go_wp2_with fail
      go_ret
      exact ⟨m, ⟨⟨hm, HB.out, HM.out⟩, hm2⟩, rfl, rfl⟩
    | false =>
      have hlt : m < 1000003 := by
        rcases Nat.lt_or_ge m 1000003 with h | h
        · exact h
        · rw [show m = 1000003 by omega, prime_1000003] at hb; cases hb
      have HB := Lib.hid hb; clear hb
      go_wp2_with fail
      go_round
      case rel => exact ⟨m + 1, by omega, by omega, by go_num, Lib.hid (fun s h1 h2 => if h : s = m then by rw [h]; exact HB.out else HM.out s h1 (by omega))⟩
      case measure => simp [intOf]; omega

set_option maxHeartbeats 2000000 in
set_option maxRecDepth 100000 in
theorem NextPrime_spec (p : Int) (w : World)   :
    Calls Tryd.prog 18 #[.int .i64 p] w fun e w' => (inB p 0 1000000 = false ∧ e = .returned (.tuple #[.int .i64 0, .bool false]) ∧ w = w') ∨ (inB p 0 1000000 = true ∧ ∃ r : Nat, NextV p r ∧ e = .returned (.tuple #[.int .i64 r, .bool true]) ∧ w = w') := by
  go_enter Tryd.func18, Tryd.ntmps18
  by_cases ha : inB p 0 1000000 = true
  case neg =>
    have ha' : inB p 0 1000000 = false := by simpa using ha
    go_wp2_with (go_at_call 26; refine (l1In_any _ _ _ _).mono ?_; rintro e w' ⟨rfl, rfl⟩)
    go_ret2
    exact .inl ⟨ha', rfl, rfl⟩
  obtain ⟨h0, h1⟩ := inB_le ha
  go_wp2_with (go_at_call 26; refine (l1In_any _ _ _ _).mono ?_; rintro e w' ⟨rfl, rfl⟩)
  refine (nuNext_any p _ h0 h1).mono ?_
  rintro e w' ⟨r, hr, rfl, rfl⟩
  go_wp2_with fail
  go_ret2
  exact .inr ⟨ha, r, hr, rfl, rfl⟩

end Go.Proofs.YtbbdhcfbdndhlaaDoor
