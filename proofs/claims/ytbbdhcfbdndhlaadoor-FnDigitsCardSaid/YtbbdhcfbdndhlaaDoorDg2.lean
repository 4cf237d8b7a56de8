/-
  Contracts: binary digits, the first different one (program and reference).
-/
import Derived.Test.YtbbdhcfbdndhlaaDoorDg
import Derived.Test.YtbbdhcfbdndhlaaDoorShelfT
import Derived.Shelf.Spec.TrailingZeros
import Derived.Laws.Bits64b
namespace Go.Proofs.YtbbdhcfbdndhlaaDoor
open Go.ChangeShapes Go.WideShapes Go.ChangeAt Go.RowKit
set_option linter.unusedVariables false

theorem xorC_i64 (a b : Nat) (ha : a < 9223372036854775808) (hb : b < 9223372036854775808) : IntKind.u64.wrap (bits .xor .i64 (a : Int) (b : Int)) = ((a ^^^ b : Nat) : Int) := by
  have hx : a ^^^ b < 2 ^ 63 := Nat.xor_lt_two_pow (by omega) (by omega)
  have h1 : (BitVec.ofInt 64 (a : Int)).toNat = a := by
    rw [BitVec.ofInt_natCast, BitVec.toNat_ofNat]; exact Nat.mod_eq_of_lt (by omega)
  have h2 : (BitVec.ofInt 64 (b : Int)).toNat = b := by
    rw [BitVec.ofInt_natCast, BitVec.toNat_ofNat]; exact Nat.mod_eq_of_lt (by omega)
  show IntKind.u64.wrap (IntKind.i64.wrap ((BitVec.ofInt 64 (a : Int) ^^^ BitVec.ofInt 64 (b : Int)).toNat : Int)) = _
  rw [BitVec.toNat_xor, h1, h2, IntKind.wrap_u64, IntWalk.i64_in _ (by omega)]
  omega
theorem bitN_int (n : Nat) : (n : Int) % 2 = ((n % 2 : Nat) : Int) := by omega
def fdOk (a b : Int) : Bool := inB a 0 1000000000000 && inB b 0 1000000000000 && !decide (a = b)
def fdV (a b : Int) : Int := if fdOk a b then ((Lib.ctz 64 (a.toNat ^^^ b.toNat) : Nat) : Int) else 0
theorem fdV_no {a b : Int} (h : fdOk a b = false) : fdV a b = 0 := by unfold fdV; rw [h]; rfl
theorem fdV_yes {a b : Int} (h : fdOk a b = true) : fdV a b = ((Lib.ctz 64 (a.toNat ^^^ b.toNat) : Nat) : Int) := by unfold fdV; rw [if_pos h]
theorem fdOk_is {a b : Int} (h : fdOk a b = true) : ∃ x y : Nat, a = x ∧ b = y ∧ x ≤ 1000000000000 ∧ y ≤ 1000000000000 ∧ x ≠ y ∧ ∃ d : Nat, fdV a b = d ∧ FirstD x y d ∧ d < 40 := by
  have h0 := h
  unfold fdOk at h
  simp only [Bool.and_eq_true, Bool.not_eq_true', decide_eq_false_iff_not] at h
  obtain ⟨⟨h1, h2⟩, h3⟩ := h
  have := inB_le h1; have := inB_le h2
  have hne : a.toNat ≠ b.toNat := by omega
  obtain ⟨hf, _⟩ := firstD_ctz (a := a.toNat) (b := b.toNat) hne (by omega) (by omega)
  exact ⟨a.toNat, b.toNat, by omega, by omega, by omega, by omega, hne, _, fdV_yes h0, hf, firstD_lt hf (by omega) (by omega)⟩

set_option maxHeartbeats 2000000 in
set_option maxRecDepth 100000 in
theorem nuBit_any (N : Nat) (i : Nat) (w : World)  (hN : N ≤ 1000000000000) (hi : i ≤ 63) :
    Calls Tryd.prog 41 #[.int .i64 (N : Nat), .int .i64 (i : Nat)] w fun e w' => e = .returned (.int .i64 (bitN N i : Nat)) ∧ w = w' := by
  go_enter Tryd.func41, Tryd.ntmps41
  go_wp2_with fail
  go_loop [0, 1] (fun nv iv => ∃ (j m : Nat), j ≤ i ∧ iv = .int .i64 ((i - j : Nat) : Int) ∧ nv = .int .i64 m ∧ Hid (m = N / 2 ^ j)) (fun nv iv => (intOf iv).toNat)
  case atStart => exact ⟨0, N, Nat.zero_le _, by simp, rfl, Lib.hid (by simp)⟩
  case round =>
    obtain ⟨j, m, hj, rfl, rfl, HM⟩ := hrel
    have hm : m ≤ 1000000000000 := by rw [HM.out]; exact Nat.le_trans (div_le' _ _ _) hN
    obtain ⟨k, HK⟩ : ∃ k : Nat, Hid (i - j = k) := ⟨_, Lib.hid rfl⟩
    rw [HK.out]
    have hk : k ≤ 63 := by have := HK.out; omega
    obtain ⟨y, HY⟩ : ∃ y, Hid (m / 2 = y) := ⟨_, Lib.hid rfl⟩
    have HSM := Lib.hid (show m / 2 = N / 2 ^ (j + 1) by rw [HM.out, div_step])
    rw [HY.out] at HSM
    have hyy : y ≤ m := by have := HY.out; omega
    have hde : (m : Int) / 2 = (y : Int) := by have := HY.out; omega
    by_cases h0 : k = 0
    case pos =>
      have HR := Lib.hid (show bitN N i = m % 2 by have := HK.out; rw [show i = j by omega]; unfold bitN; rw [HM.out])
      subst h0
      go_wp2_with fail
      go_ret
      exact ⟨ret_int (by rw [HR.out]; omega), rfl⟩
    have hk1 : (0 : Int) < k := by omega
    go_wp2_with fail
    go_round
    case rel => exact ⟨j + 1, y, by have := HK.out; omega, by have := HK.out; go_num, by go_num, HSM⟩
    case measure => simp [intOf]; omega

set_option maxHeartbeats 2000000 in
set_option maxRecDepth 100000 in
theorem nuDiffer_any (a : Nat) (b : Nat) (w : World)  (d : Nat) (ha : a ≤ 1000000000000) (hb : b ≤ 1000000000000) (hd : FirstD a b d) (hd40 : d < 40) :
    Calls Tryd.prog 31 #[.int .i64 (a : Nat), .int .i64 (b : Nat)] w fun e w' => e = .returned (.int .i64 (d : Nat)) ∧ w = w' := by
  have HD := Lib.hid hd; clear hd
  go_enter Tryd.func31, Tryd.ntmps31
  go_wp2_with fail
  go_loop [5] (fun iv => ∃ (i : Nat), i ≤ d ∧ iv = .int .i64 i) (fun iv => d - (intOf iv).toNat)
  case atStart => exact ⟨0, Nat.zero_le _, rfl⟩
  case round =>
    obtain ⟨i, hi, rfl⟩ := hrel
    have HA := Lib.hid (fun (w : World) => nuBit_any a i w ha (by omega))
    have HB := Lib.hid (fun (w : World) => nuBit_any b i w hb (by omega))
    obtain ⟨p, HP⟩ : ∃ p, Hid (bitN a i = p) := ⟨_, Lib.hid rfl⟩
    obtain ⟨q, HQ⟩ : ∃ q, Hid (bitN b i = q) := ⟨_, Lib.hid rfl⟩
    rw [HP.out] at HA
    rw [HQ.out] at HB
    by_cases hid : i = d
    case pos =>
      subst hid
      have hpq : ¬ p = q := by have := HD.out.1; rw [HP.out, HQ.out] at this; exact this
      have hpi : ¬ (p : Int) = (q : Int) := by omega
      go_wp2_with fail
      refine (HA.out _).mono ?_
      rintro e w' ⟨rfl, rfl⟩
      go_wp2_with fail
      refine (HB.out _).mono ?_
      rintro e w' ⟨rfl, rfl⟩
      go_wp2_with fail
      go_ret
      exact ⟨ret_int (by omega), rfl⟩
    have hpq : p = q := by have := HD.out.2 i (by omega); rw [HP.out, HQ.out] at this; exact this
    subst hpq
    go_wp2_with fail
    refine (HA.out _).mono ?_
    rintro e w' ⟨rfl, rfl⟩
    go_wp2_with fail
    refine (HB.out _).mono ?_
    rintro e w' ⟨rfl, rfl⟩
    go_wp2_with fail
    go_round
    case rel => exact ⟨i + 1, by omega, by go_num⟩
    case measure => simp [intOf]; omega

set_option maxHeartbeats 2000000 in
set_option maxRecDepth 100000 in
theorem FirstDifferentBit_spec (a : Int) (b : Int) (w : World)   :
    Calls Tryd.prog 12 #[.int .i64 a, .int .i64 b] w fun e w' => e = .returned (.tuple #[.int .i64 (fdV a b), .bool (fdOk a b)]) ∧ w = w' := by
  go_enter Tryd.func12, Tryd.ntmps12
  by_cases ha : inB a 0 1000000000000 = true
  case neg =>
    have ha' : inB a 0 1000000000000 = false := by simpa using ha
    have HNO := Lib.hid (show fdOk a b = false by unfold fdOk; rw [ha']; simp)
    go_wp2_with (go_at_call 25; refine (nuWhole_any _ _).mono ?_; rintro e w' ⟨rfl, rfl⟩)
    go_ret2
    exact ⟨by rw [HNO.out, fdV_no HNO.out]; rfl, rfl⟩
  by_cases hb : inB b 0 1000000000000 = true
  case neg =>
    have hb' : inB b 0 1000000000000 = false := by simpa using hb
    have HNO := Lib.hid (show fdOk a b = false by unfold fdOk; rw [hb']; simp)
    go_wp2_with (go_at_call 25; refine (nuWhole_any _ _).mono ?_; rintro e w' ⟨rfl, rfl⟩)
    go_ret2
    exact ⟨by rw [HNO.out, fdV_no HNO.out]; rfl, rfl⟩
  by_cases hab : a = b
  case pos =>
    have HNO := Lib.hid (show fdOk a b = false by unfold fdOk; rw [decide_eq_true hab]; simp)
    subst hab
    go_wp2_with (go_at_call 25; refine (nuWhole_any _ _).mono ?_; rintro e w' ⟨rfl, rfl⟩)
    go_ret2
    exact ⟨by rw [HNO.out, fdV_no HNO.out]; rfl, rfl⟩
  have HYES := Lib.hid (show fdOk a b = true by unfold fdOk; rw [ha, hb, decide_eq_false hab]; rfl)
  obtain ⟨x, y, rfl, rfl, hx, hy, hxy, d, ed, hd, hd40⟩ := fdOk_is HYES.out
  have HED := Lib.hid ed; have HFD := Lib.hid hd
  clear ed hd
  go_wp2_with (first | (go_at_call 25; refine (nuWhole_any _ _).mono ?_; rintro e w' ⟨rfl, rfl⟩) | (go_at_call 31; refine (nuDiffer_any x y _ d hx hy HFD.out hd40).mono ?_; rintro e w' ⟨rfl, rfl⟩))
  go_ret2
  exact ⟨by rw [HYES.out, HED.out]; rfl, rfl⟩

set_option maxHeartbeats 2000000 in
set_option maxRecDepth 100000 in
theorem FirstDifferentBit_impl (a : Int) (b : Int) (w : World)   (hT : TabAt (Tryd.laysTZ_ren.g 1) Lib.deBruijn64tab w) :
    Calls Tryd.prog 11 #[.int .i64 a, .int .i64 b] w fun e w' => e = .returned (.tuple #[.int .i64 (fdV a b), .bool (fdOk a b)]) ∧ w = w' := by
  go_enter Tryd.func11, Tryd.ntmps11
  by_cases ha : inB a 0 1000000000000 = true
  case neg =>
    have ha' : inB a 0 1000000000000 = false := by simpa using ha
    have HNO := Lib.hid (show fdOk a b = false by unfold fdOk; rw [ha']; simp)
    go_wp2_with (go_at_call 23; refine (isWhole_any _ _).mono ?_; rintro e w' ⟨rfl, rfl⟩)
    go_ret2
    exact ⟨by rw [HNO.out, fdV_no HNO.out]; rfl, rfl⟩
  by_cases hb : inB b 0 1000000000000 = true
  case neg =>
    have hb' : inB b 0 1000000000000 = false := by simpa using hb
    have HNO := Lib.hid (show fdOk a b = false by unfold fdOk; rw [hb']; simp)
    go_wp2_with (go_at_call 23; refine (isWhole_any _ _).mono ?_; rintro e w' ⟨rfl, rfl⟩)
    go_ret2
    exact ⟨by rw [HNO.out, fdV_no HNO.out]; rfl, rfl⟩
  by_cases hab : a = b
  case pos =>
    have HNO := Lib.hid (show fdOk a b = false by unfold fdOk; rw [decide_eq_true hab]; simp)
    subst hab
    go_wp2_with (go_at_call 23; refine (isWhole_any _ _).mono ?_; rintro e w' ⟨rfl, rfl⟩)
    go_ret2
    exact ⟨by rw [HNO.out, fdV_no HNO.out]; rfl, rfl⟩
  have HYES := Lib.hid (show fdOk a b = true by unfold fdOk; rw [ha, hb, decide_eq_false hab]; rfl)
  obtain ⟨x, y, rfl, rfl, hx, hy, hxy, d, ed, hd, hd40⟩ := fdOk_is HYES.out
  have HED := Lib.hid ed; have HFD := Lib.hid hd
  clear ed hd
  go_wp2_with (go_at_call 23; refine (isWhole_any _ _).mono ?_; rintro e w' ⟨rfl, rfl⟩)
  rw [xorC_i64 x y (by omega) (by omega)]
  refine (Any7.bits_TrailingZeros64 Tryd.laysTZ (x ^^^ y) (Nat.lt_trans (Nat.xor_lt_two_pow (n := 63) (by omega) (by omega)) (by decide)) w (fun _ => hT)).mono ?_
  rintro e w' ⟨rfl, rfl⟩
  have HCZ := Lib.hid (show ((Lib.ctz 64 (x ^^^ y) : Nat) : Int) = d by rw [← HED.out, fdV_yes HYES.out, Int.toNat_natCast, Int.toNat_natCast])
  rw [HCZ.out]
  go_wp2_with fail
  go_ret2
  exact ⟨by rw [HYES.out, HED.out]; rfl, rfl⟩

end Go.Proofs.YtbbdhcfbdndhlaaDoor
