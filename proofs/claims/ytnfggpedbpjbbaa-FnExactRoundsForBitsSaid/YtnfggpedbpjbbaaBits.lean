/-
  Contracts of the functions that RoundsForBits of the program and of the reference reach, and the law on them: for all integers x and b the program's RoundsForBits returns what the reference's returns. No condition.
-/
import Derived.Test.YtnfggpedbpjbbaaRows
import Derived.WalkKit
import Derived.ProofKit
import Derived.OpenShut
import Derived.ShutString
import Derived.Lib.BitFns
import Derived.Lib.Hide
import Derived.Outline
import Derived.Test.YtnfggpedbpjbbaaShelf
namespace Go.Proofs.Ytnfggpedbpjbbaa
open Go.ChangeShapes Go.WideShapes Go.ChangeAt Go.RowKit
set_option linter.unusedVariables false

theorem ret_int {k : IntKind} {a b : Int} (h : a = b) : Ending.returned (.int k a) = .returned (.int k b) := by rw [h]
theorem ret_pair {k : IntKind} {a b : Int} {c d : Bool} (h : a = b) (h2 : c = d) : Ending.returned (.tuple #[.int k a, .bool c]) = .returned (.tuple #[.int k b, .bool d]) := by rw [h, h2]
theorem ret_bool {a b : Bool} (h : a = b) : Ending.returned (.bool a) = .returned (.bool b) := by rw [h]

def inB (n lo hi : Int) : Bool := decide (lo ≤ n) && decide (n ≤ hi)

theorem inB_true {n lo hi : Int} (h1 : lo ≤ n) (h2 : n ≤ hi) : inB n lo hi = true := by simp [inB, h1, h2]
theorem inB_low {n lo hi : Int} (h1 : n < lo) : inB n lo hi = false := by simp [inB]; omega
theorem inB_high {n lo hi : Int} (h1 : hi < n) : inB n lo hi = false := by simp [inB]; omega
theorem inB_le {n lo hi : Int} (h : inB n lo hi = true) : lo ≤ n ∧ n ≤ hi := by simpa [inB] using h

theorem within_any (n lo hi : Int) (w : World) :
    Calls Try.prog 27 #[.int .i64 n, .int .i64 lo, .int .i64 hi] w fun e w' => e = .returned (.bool (inB n lo hi)) ∧ w = w' := by
  by_cases h1 : lo ≤ n
  · go_enter Try.func27, Try.ntmps27
    go_wp2
    go_ret
    exact ⟨by simp [inB, h1], rfl⟩
  · have h1' : n < lo := by omega
    go_enter Try.func27, Try.ntmps27
    go_wp2
    go_ret
    exact ⟨ret_bool (inB_low h1').symm, rfl⟩

theorem l1In_any (n lo hi : Int) (w : World) :
    Calls Try.prog 25 #[.int .i64 n, .int .i64 lo, .int .i64 hi] w fun e w' => e = .returned (.bool (inB n lo hi)) ∧ w = w' := by
  by_cases h1 : lo ≤ n
  · go_enter Try.func25, Try.ntmps25
    go_wp2
    go_ret
    exact ⟨by simp [inB, h1], rfl⟩
  · have h1' : n < lo := by omega
    go_enter Try.func25, Try.ntmps25
    go_wp2
    go_ret
    exact ⟨ret_bool (inB_low h1').symm, rfl⟩

theorem l1Abs_any (n : Int) (w : World) (h1 : -9223372036854775807 ≤ n) (h2 : n ≤ 9223372036854775807) :
    Calls Try.prog 37 #[.int .i64 n] w fun e w' => e = .returned (.int .i64 n.natAbs) ∧ w = w' := by
  by_cases h : 0 < n
  · have h' : -n < n := by omega
    go_enter Try.func37, Try.ntmps37
    go_wp2
    go_ret
    exact ⟨ret_int (by omega), rfl⟩
  · have h' : ¬ -n < n := by omega
    go_enter Try.func37, Try.ntmps37
    go_wp2
    go_ret
    exact ⟨ret_int (by omega), rfl⟩

def nb (x : Nat) : Nat := max (Lib.bitLen x) 1

theorem nb_small (x : Nat) (h : x ≤ 1) : nb x = 1 := by
  have : x = 0 ∨ x = 1 := by omega
  rcases this with rfl | rfl <;> rfl
theorem nb_half (x : Nat) (h : 1 < x) (h2 : x < 2 ^ 64) : nb x = 1 + nb (x / 2) := by
  have e := Lib.bitLen_half x (by omega) h2
  have e2 := Lib.bitLen_half (x / 2) (by omega) (by omega)
  unfold nb; omega
theorem nb_le (x : Nat) (h2 : x < 2 ^ 63) : 1 ≤ nb x ∧ nb x ≤ 64 := by
  have := Lib.bitLen_le x 64 (by omega) (by omega)
  unfold nb; omega

set_option maxHeartbeats 400000 in
theorem biBits_any (n : Int) (w : World) (h1 : -9223372036854775807 ≤ n) (h2 : n ≤ 9223372036854775807) :
    Calls Try.prog 26 #[.int .i64 n] w fun e w' => e = .returned (.int .i64 (nb n.natAbs)) ∧ w = w' := by
  go_enter Try.func26, Try.ntmps26
  go_wp2_with (go_at_call 37; refine (l1Abs_any _ _ (by omega) (by omega)).mono ?_; rintro e w' ⟨rfl, rfl⟩)
  go_loop [0, 3] (fun x b => ∃ (k : Nat) (c : Nat), k ≤ n.natAbs ∧ x = .int .i64 k ∧ b = .int .i64 c ∧ c + nb k = 1 + nb n.natAbs) (fun x _ => (intOf x).toNat)
  case atStart => exact ⟨_, 1, Nat.le_refl _, rfl, rfl, rfl⟩
  case round =>
    obtain ⟨k, c, hk, rfl, rfl, hr⟩ := hrel
    have hb := nb_le n.natAbs (by omega)
    have hb2 := nb_le k (by omega)
    have hn : n.natAbs < 2 ^ 63 := by omega
    have HR := Lib.hid hr
    have hc : c ≤ 65 := by omega
    clear hr
    by_cases hlt : 1 < k
    · have hlt' : (1 : Int) < k := by omega
      go_wp2
      go_round
      case rel =>
        refine ⟨k / 2, c + 1, by omega, by go_num, by go_num, ?_⟩
        have := nb_half k hlt (by omega)
        have := HR.out
        omega
      case measure => simp [intOf]; omega
    · have hlt' : ¬ (1 : Int) < k := by omega
      go_wp2
      go_ret
      have := nb_small k (by omega)
      have := HR.out
      exact ⟨ret_int (by omega), rfl⟩

theorem bitsOf_any (n : Int) (w : World) (h1 : -9223372036854775807 ≤ n) (h2 : n ≤ 9223372036854775807) :
    Calls Try.prog 28 #[.int .i64 n] w fun e w' => e = .returned (.int .i64 (nb n.natAbs)) ∧ w = w' := by
  go_enter Try.func28, Try.ntmps28
  go_wp2_with (go_at_call 38; refine (Try.bits_Len64 _ _ (by omega) (by omega)).mono ?_; rintro e w' ⟨rfl, rfl⟩)
  go_ret
  refine ⟨ret_int ?_, rfl⟩
  rw [show (max n (-n)).toNat = n.natAbs by omega]
  unfold nb
  omega

def rfb (x b : Int) : Int := if inB x (-1152921504606846975) 1152921504606846975 && inB b 1 60 then ((nb x.natAbs : Int) + b - 1) / b else 0
def rfbOk (x b : Int) : Bool := inB x (-1152921504606846975) 1152921504606846975 && inB b 1 60

theorem rfb_spec (x b : Int) (w : World) :
    Calls Try.prog 9 #[.int .i64 x, .int .i64 b] w fun e w' => e = .returned (.tuple #[.int .i64 (rfb x b), .bool (rfbOk x b)]) ∧ w = w' := by
  by_cases hx : inB x (-1152921504606846975) 1152921504606846975 = true
  · obtain ⟨x1, x2⟩ := inB_le hx
    by_cases hb : inB b 1 60 = true
    · obtain ⟨b1, b2⟩ := inB_le hb
      have hn := nb_le x.natAbs (by omega)
      go_enter Try.func9, Try.ntmps9
      go_wp2_with (first | (go_at_call 25; refine (l1In_any _ _ _ _).mono ?_; rintro e w' ⟨rfl, rfl⟩) | (go_at_call 26; refine (biBits_any _ _ (by omega) (by omega)).mono ?_; rintro e w' ⟨rfl, rfl⟩))
      go_ret2
      exact ⟨ret_pair (by simp [rfb, hx, hb]) (by simp [rfbOk, hx, hb]), rfl⟩
    · have hb' : inB b 1 60 = false := by simpa using hb
      go_enter Try.func9, Try.ntmps9
      go_wp2_with (first | (go_at_call 25; refine (l1In_any _ _ _ _).mono ?_; rintro e w' ⟨rfl, rfl⟩))
      go_ret2
      exact ⟨ret_pair (by simp [rfb, hb']) (by simp [rfbOk, hb']), rfl⟩
  · have hx' : inB x (-1152921504606846975) 1152921504606846975 = false := by simpa using hx
    go_enter Try.func9, Try.ntmps9
    go_wp2_with (first | (go_at_call 25; refine (l1In_any _ _ _ _).mono ?_; rintro e w' ⟨rfl, rfl⟩))
    go_ret2
    exact ⟨ret_pair (by simp [rfb, hx']) (by simp [rfbOk, hx']), rfl⟩

theorem rfb_impl (x b : Int) (w : World) :
    Calls Try.prog 10 #[.int .i64 x, .int .i64 b] w fun e w' => e = .returned (.tuple #[.int .i64 (rfb x b), .bool (rfbOk x b)]) ∧ w = w' := by
  by_cases hx : inB x (-1152921504606846975) 1152921504606846975 = true
  · obtain ⟨x1, x2⟩ := inB_le hx
    by_cases hb : inB b 1 60 = true
    · obtain ⟨b1, b2⟩ := inB_le hb
      have hn := nb_le x.natAbs (by omega)
      go_enter Try.func10, Try.ntmps10
      go_wp2_with (first | (go_at_call 27; refine (within_any _ _ _ _).mono ?_; rintro e w' ⟨rfl, rfl⟩) | (go_at_call 28; refine (bitsOf_any _ _ (by omega) (by omega)).mono ?_; rintro e w' ⟨rfl, rfl⟩))
      go_ret2
      exact ⟨ret_pair (by simp [rfb, hx, hb]) (by simp [rfbOk, hx, hb]), rfl⟩
    · have hb' : inB b 1 60 = false := by simpa using hb
      go_enter Try.func10, Try.ntmps10
      go_wp2_with (first | (go_at_call 27; refine (within_any _ _ _ _).mono ?_; rintro e w' ⟨rfl, rfl⟩))
      go_ret2
      exact ⟨ret_pair (by simp [rfb, hb']) (by simp [rfbOk, hb']), rfl⟩
  · have hx' : inB x (-1152921504606846975) 1152921504606846975 = false := by simpa using hx
    go_enter Try.func10, Try.ntmps10
    go_wp2_with (first | (go_at_call 27; refine (within_any _ _ _ _).mono ?_; rintro e w' ⟨rfl, rfl⟩))
    go_ret2
    exact ⟨ret_pair (by simp [rfb, hx']) (by simp [rfbOk, hx']), rfl⟩


end Go.Proofs.Ytnfggpedbpjbbaa
