/-
  Plain: digits, binary digits, primes. No condition on any program.
-/
import Derived.Test.YtbbdhcfbdndhlaaDoorBase
import Derived.Lib.TrailingZeros
import Derived.Lib.BitFns
namespace Go.Proofs.YtbbdhcfbdndhlaaDoor
set_option linter.unusedVariables false

/-- the digits of n to the base b, that of the least value first -/
def digs (n b c : Nat) : List Int := (List.range c).map fun i => ((n / b ^ i % b : Nat) : Int)
theorem digs_len (n b c : Nat) : (digs n b c).length = c := by simp [digs]
theorem nth_digs {n b c i : Nat} (h : i < c) : nth (digs n b c) i = ((n / b ^ i % b : Nat) : Int) := by simp [nth, digs, h]
theorem digs_succ (n b c : Nat) : digs n b (c + 1) = digs n b c ++ [((n / b ^ c % b : Nat) : Int)] := by simp [digs, List.range_succ]
theorem div_step (n b c : Nat) : n / b ^ c / b = n / b ^ (c + 1) := by rw [Nat.div_div_eq_div_mul, Nat.pow_succ]
theorem div_back {n b i : Nat} (hb : 0 < b) : n / b ^ (i + 1) * b + n / b ^ i % b = n / b ^ i := by
  rw [← div_step]
  have := Nat.div_add_mod (n / b ^ i) b
  rw [Nat.mul_comm] at this
  exact this
theorem div_le' (n b i : Nat) : n / b ^ i ≤ n := Nat.div_le_self _ _
theorem mem_digs {n b c : Nat} (hb : 0 < b) {x : Int} (h : x ∈ digs n b c) : 0 ≤ x ∧ x ≤ (b : Int) - 1 := by
  obtain ⟨i, hi, rfl⟩ := List.mem_map.1 h
  have := Nat.mod_lt (n / b ^ i) hb
  omega
def digOk (n b c : Int) : Bool := inB n 0 1000000000000 && inB b 2 1000 && inB c 0 60 && decide (n.toNat / b.toNat ^ c.toNat = 0)
def digOut (n b c : Int) : List Int := if digOk n b c then digs n.toNat b.toNat c.toNat else []
theorem digOut_yes {n b c : Int} (h : digOk n b c = true) : digOut n b c = digs n.toNat b.toNat c.toNat := by unfold digOut; rw [if_pos h]
theorem digOut_no {n b c : Int} (h : digOk n b c = false) : digOut n b c = [] := by unfold digOut; rw [h]; rfl
theorem digOk_is {n b c : Int} (h : digOk n b c = true) : ∃ n' b' c' : Nat, n = n' ∧ b = b' ∧ c = c' ∧ n' ≤ 1000000000000 ∧ 2 ≤ b' ∧ b' ≤ 1000 ∧ c' ≤ 60 ∧ n' / b' ^ c' = 0 := by
  unfold digOk at h
  simp only [Bool.and_eq_true, decide_eq_true_eq] at h
  obtain ⟨⟨⟨h1, h2⟩, h3⟩, h4⟩ := h
  have := inB_le h1; have := inB_le h2; have := inB_le h3
  exact ⟨n.toNat, b.toNat, c.toNat, by omega, by omega, by omega, by omega, by omega, by omega, by omega, h4⟩

/-- the sum of some numbers -/
def sumI (zs : List Int) : Int := zs.foldl (· + ·) 0
theorem sumI_snoc (zs : List Int) (x : Int) : sumI (zs ++ [x]) = sumI zs + x := by simp [sumI, List.foldl_append]
theorem sumI_take {zs : List Int} {k : Nat} (h : k < zs.length) : sumI (zs.take (k + 1)) = sumI (zs.take k) + nth zs k := by
  rw [List.take_succ_eq_append_getElem h, sumI_snoc, nth_eq h]
theorem sumI_bits {zs : List Int} (h : ∀ x ∈ zs, 0 ≤ x ∧ x ≤ 1) : ∀ k, k ≤ zs.length → 0 ≤ sumI (zs.take k) ∧ sumI (zs.take k) ≤ k
  | 0, _ => by simp [sumI]
  | k + 1, hk => by
    have h1 := sumI_bits h k (by omega)
    have h2 := h _ (nth_mem (show k < zs.length by omega))
    rw [sumI_take (by omega)]
    omega

/-- binary digit i -/
def bitN (n i : Nat) : Nat := n / 2 ^ i % 2
theorem bitN_lt (n i : Nat) : bitN n i < 2 := Nat.mod_lt _ (by decide)
theorem bitN_test (n i : Nat) : bitN n i = if n.testBit i then 1 else 0 := by
  unfold bitN
  rw [Nat.testBit_eq_decide_div_mod_eq]
  have := Nat.mod_lt (n / 2 ^ i) (show 0 < 2 by decide)
  by_cases h : n / 2 ^ i % 2 = 1
  · rw [h]; rfl
  · rw [if_neg (by simpa using h)]; omega
theorem bitN_eq {a b i : Nat} : bitN a i = bitN b i ↔ a.testBit i = b.testBit i := by
  rw [bitN_test, bitN_test]
  cases a.testBit i <;> cases b.testBit i <;> simp
/-- d is the first binary digit in which a and b differ -/
def FirstD (a b d : Nat) : Prop := bitN a d ≠ bitN b d ∧ ∀ i, i < d → bitN a i = bitN b i
theorem FirstD.one {a b d d' : Nat} (h : FirstD a b d) (h' : FirstD a b d') : d = d' := by
  rcases Nat.lt_trichotomy d d' with h1 | h1 | h1
  · exact absurd (h'.2 d h1) h.1
  · exact h1
  · exact absurd (h.2 d' h1) h'.1
theorem two_test {k m i : Nat} : (2 ^ k * (2 * m + 1)).testBit i = (decide (k ≤ i) && (2 * m + 1).testBit (i - k)) := Nat.testBit_two_pow_mul ..
theorem firstD_ctz {a b : Nat} (h : a ≠ b) (ha : a < 2 ^ 63) (hb : b < 2 ^ 63) : FirstD a b (Lib.ctz 64 (a ^^^ b)) ∧ Lib.ctz 64 (a ^^^ b) < 63 := by
  have hx0 : a ^^^ b ≠ 0 := fun e => h (Nat.eq_of_testBit_eq fun i => by have := congrArg (fun x => Nat.testBit x i) e; simpa using this)
  have hx : a ^^^ b < 2 ^ 63 := Nat.xor_lt_two_pow ha hb
  have hc : Lib.ctz 64 (a ^^^ b) = Lib.ctzFrom 64 (a ^^^ b) := by unfold Lib.ctz; rw [if_neg hx0]
  obtain ⟨m, hm, hk⟩ := Lib.ctzFrom_spec 64 (a ^^^ b) (by omega) (by omega)
  rw [hc]
  generalize Lib.ctzFrom 64 (a ^^^ b) = k at hm hk
  have ht : ∀ i, (a ^^^ b).testBit i = (decide (k ≤ i) && (2 * m + 1).testBit (i - k)) := fun i => by rw [hm]; exact two_test
  refine ⟨⟨fun e => ?_, fun i hi => ?_⟩, ?_⟩
  · have h1 := ht k
    rw [Nat.testBit_xor, bitN_eq.1 e, Nat.sub_self] at h1
    simp at h1
  · rw [bitN_eq]
    have h1 := ht i
    rw [Nat.testBit_xor, decide_eq_false (by omega)] at h1
    simpa using h1
  · rcases Nat.lt_or_ge k 63 with h1 | h1
    · exact h1
    · exfalso
      have : 2 ^ 63 ≤ a ^^^ b := by
        rw [hm]
        exact Nat.le_trans (Nat.pow_le_pow_right (by decide) h1) (Nat.le_mul_of_pos_right _ (by omega))
      omega
theorem bitN_zero {n i : Nat} (h : n < 2 ^ i) : bitN n i = 0 := by unfold bitN; rw [Nat.div_eq_of_lt h]
/-- different numbers below 2^40 differ in one of the first forty digits -/
theorem firstD_lt {a b d : Nat} (h : FirstD a b d) (ha : a < 2 ^ 40) (hb : b < 2 ^ 40) : d < 40 := by
  rcases Nat.lt_or_ge d 40 with h1 | h1
  · exact h1
  · exfalso
    have hp : 2 ^ 40 ≤ 2 ^ d := Nat.pow_le_pow_right (by decide) h1
    exact h.1 (by rw [bitN_zero (by omega), bitN_zero (by omega)])
/-- a prime -/
def primeB (n : Nat) : Bool := decide (1 < n) && (List.range (n + 1)).all fun d => decide (d < 2) || (decide (n < d * d) || !decide (n % d = 0))
theorem primeB_iff {n : Nat} : primeB n = true ↔ 1 < n ∧ ∀ d, 2 ≤ d → d * d ≤ n → n % d ≠ 0 := by
  unfold primeB
  rw [Bool.and_eq_true, decide_eq_true_eq, List.all_eq_true]
  constructor
  · rintro ⟨h1, h2⟩
    refine ⟨h1, fun d hd hdd => ?_⟩
    have h3 := h2 d (List.mem_range.2 (by have := Nat.mul_le_mul hd (Nat.le_refl d); omega))
    simp only [Bool.or_eq_true, decide_eq_true_eq, Bool.not_eq_true', decide_eq_false_iff_not] at h3
    rcases h3 with h3 | h3 | h3
    · omega
    · omega
    · exact h3
  · rintro ⟨h1, h2⟩
    refine ⟨h1, fun d _ => ?_⟩
    simp only [Bool.or_eq_true, decide_eq_true_eq, Bool.not_eq_true', decide_eq_false_iff_not]
    by_cases h3 : d < 2
    · exact .inl h3
    · by_cases h4 : n < d * d
      · exact .inr (.inl h4)
      · exact .inr (.inr (h2 d (by omega) (by omega)))
theorem primeB_no {n d : Nat} (hd : 2 ≤ d) (hdd : d * d ≤ n) (h : n % d = 0) : primeB n = false := by
  cases e : primeB n with
  | false => rfl
  | true => exact absurd h ((primeB_iff.1 e).2 d hd hdd)
theorem primeB_yes {n d : Nat} (hd : ∀ e, 2 ≤ e → e < d → n % e ≠ 0) (hdd : n < d * d) : primeB n = decide (1 < n) := by
  by_cases h : 1 < n
  · rw [decide_eq_true h, primeB_iff]
    refine ⟨h, fun e he hee => hd e he ?_⟩
    rcases Nat.lt_or_ge e d with h1 | h1
    · exact h1
    · exact absurd (Nat.mul_le_mul h1 h1) (by omega)
  · rw [decide_eq_false h]
    cases e : primeB n with
    | false => rfl
    | true => exact absurd (primeB_iff.1 e).1 h
theorem prime_1000003 : primeB 1000003 = true := by
  rw [primeB_iff]
  refine ⟨by decide, fun d hd hdd => ?_⟩
  have key : ∀ e, e < 1001 → 2 ≤ e → 1000003 % e ≠ 0 := by decide +kernel
  refine key d ?_ hd
  rcases Nat.lt_or_ge d 1001 with h | h
  · exact h
  · exact absurd (Nat.mul_le_mul h h) (by omega)
/-- r is the least prime from n on -/
def NextP (n r : Nat) : Prop := n ≤ r ∧ primeB r = true ∧ ∀ s, n ≤ s → s < r → primeB s = false
theorem NextP.one {n r s : Nat} (h : NextP n r) (k : NextP n s) : r = s := by
  rcases Nat.lt_trichotomy r s with h1 | h1 | h1
  · have := k.2.2 r h.1 h1; rw [h.2.1] at this; cases this
  · exact h1
  · have := h.2.2 s k.1 h1; rw [k.2.1] at this; cases this
/-- a number's binary digits: as many as its length, the top one set -/
theorem bits_top : ∀ (f a : Nat), a ≤ f → 0 < a → a < 2 ^ 63 → ∃ k, Lib.bitLen a = k + 1 ∧ a / 2 ^ k % 2 = 1 ∧ a / 2 ^ (k + 1) = 0
  | 0, a, h1, h2, _ => by omega
  | f + 1, a, h1, h2, h3 => by
    have hh := Lib.bitLen_half a (by omega) (by omega)
    by_cases e : a / 2 = 0
    · refine ⟨0, ?_, ?_, ?_⟩
      · rw [hh, e]; rfl
      · rw [Nat.pow_zero, Nat.div_one]; omega
      · simpa using e
    · obtain ⟨k, k1, k2, k3⟩ := bits_top f (a / 2) (by omega) (by omega) (by omega)
      have e2 : ∀ i, a / 2 / 2 ^ i = a / 2 ^ (i + 1) := fun i => by rw [Nat.div_div_eq_div_mul, Nat.pow_succ, Nat.mul_comm]
      refine ⟨k + 1, by omega, ?_, ?_⟩
      · rw [← e2]; exact k2
      · rw [← e2]; exact k3
theorem bits_len (a : Nat) (h : a < 2 ^ 63) : a / 2 ^ Lib.bitLen a = 0 ∧ (0 < Lib.bitLen a → a / 2 ^ (Lib.bitLen a - 1) % 2 = 1) := by
  by_cases h0 : a = 0
  · subst h0
    exact ⟨by simp, fun h => by simp [Lib.bitLen, Lib.bitLenAux] at h⟩
  · obtain ⟨k, k1, k2, k3⟩ := bits_top a a (Nat.le_refl _) (by omega) h
    rw [k1]
    exact ⟨k3, fun _ => k2⟩
theorem bitLen_40 {a : Nat} (h : a < 2 ^ 40) : Lib.bitLen a ≤ 40 := by
  rcases Nat.lt_or_ge 40 (Lib.bitLen a) with h1 | h1
  · exfalso
    have h2 := (bits_len a (by omega)).2 (by omega)
    rw [Nat.div_eq_of_lt (Nat.lt_of_lt_of_le h (Nat.pow_le_pow_right (by decide) (by omega)))] at h2
    simp at h2
  · exact h1
end Go.Proofs.YtbbdhcfbdndhlaaDoor
