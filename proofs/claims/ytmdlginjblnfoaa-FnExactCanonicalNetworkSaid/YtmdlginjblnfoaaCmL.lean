/-
  Contracts: lexicographic comparison of lists (slices.Compare and isBefore).
-/
import Derived.Test.YtmdlginjblnfoaaCoP
import Derived.Test.YtmdlginjblnfoaaFrame
import Derived.Test.YtmdlginjblnfoaaShelf
namespace Go.Proofs.Ytmdlginjblnfoaa
open Go.ChangeShapes Go.WideShapes Go.ChangeAt Go.RowKit
set_option linter.unusedVariables false

def cmpV (a b : Int) : Int := if a < b then -1 else if b < a then 1 else 0
theorem cmpV_eq (a b : Int) : Lib.compareInt a b = cmpV a b := by unfold Lib.compareInt cmpV; rfl
def cmpL (a b : List Int) : Int := if ltL a b = true then -1 else if a = b then 0 else 1
theorem ltL_drop : ∀ (k : Nat) (a b : List Int), k ≤ a.length → k ≤ b.length → a.take k = b.take k → ltL a b = ltL (a.drop k) (b.drop k) ∧ (a = b ↔ a.drop k = b.drop k)
  | 0, a, b, _, _, _ => ⟨rfl, Iff.rfl⟩
  | k + 1, [], _, h, _, _ => by simp at h
  | k + 1, _ :: _, [], _, h, _ => by simp at h
  | k + 1, x :: a, y :: b, h1, h2, e => by
    simp only [List.take_succ_cons, List.cons.injEq] at e
    obtain ⟨rfl, e⟩ := e
    obtain ⟨i1, i2⟩ := ltL_drop k a b (by simpa using h1) (by simpa using h2) e
    refine ⟨by simp only [ltL, if_pos, List.drop_succ_cons]; exact i1, ?_⟩
    simp only [List.cons.injEq, true_and, List.drop_succ_cons]
    exact i2
theorem drop_cons {a : List Int} {k : Nat} (h : k < a.length) : a.drop k = nth a k :: a.drop (k + 1) := by rw [List.drop_eq_getElem_cons h, nth_eq h]
theorem take_same {a b : List Int} {k : Nat} (ha : k < a.length) (hb : k < b.length) (h : a.take k = b.take k) (e : nth a k = nth b k) : a.take (k + 1) = b.take (k + 1) := by
  rw [List.take_succ_eq_append_getElem ha, List.take_succ_eq_append_getElem hb, h, ← nth_eq ha, ← nth_eq hb, e]
theorem lt_long {a b : List Int} {k : Nat} (ha : k < a.length) (hb : b.length = k) (h : a.take k = b.take k) : ltL a b = false ∧ cmpL a b = 1 := by
  obtain ⟨h1, h2⟩ := ltL_drop k a b (by omega) (by omega) h
  rw [drop_cons ha, show b.drop k = [] from List.drop_eq_nil_of_le (by omega)] at h1 h2
  have h3 : ltL a b = false := h1
  refine ⟨h3, ?_⟩
  unfold cmpL
  rw [h3, if_neg (by decide), if_neg (fun e => by have := h2.1 e; cases this)]
theorem lt_short {a b : List Int} {k : Nat} (ha : a.length = k) (hb : k < b.length) (h : a.take k = b.take k) : ltL a b = true ∧ cmpL a b = -1 := by
  obtain ⟨h1, _⟩ := ltL_drop k a b (by omega) (by omega) h
  rw [drop_cons hb, show a.drop k = [] from List.drop_eq_nil_of_le (by omega)] at h1
  have h3 : ltL a b = true := h1
  exact ⟨h3, by unfold cmpL; rw [h3, if_pos rfl]⟩
theorem lt_same {a b : List Int} {k : Nat} (ha : a.length = k) (hb : b.length = k) (h : a.take k = b.take k) : ltL a b = false ∧ cmpL a b = 0 := by
  have e : a = b := by rw [List.take_of_length_le (by omega), List.take_of_length_le (by omega)] at h; exact h
  subst e
  exact ⟨ltL_irr a, by unfold cmpL; rw [ltL_irr, if_neg (by decide), if_pos rfl]⟩
theorem lt_diff {a b : List Int} {k : Nat} (ha : k < a.length) (hb : k < b.length) (h : a.take k = b.take k) (hne : nth a k ≠ nth b k) : ltL a b = decide (nth a k < nth b k) ∧ cmpL a b = cmpV (nth a k) (nth b k) := by
  obtain ⟨h1, h2⟩ := ltL_drop k a b (by omega) (by omega) h
  rw [drop_cons ha, drop_cons hb] at h1 h2
  simp only [ltL] at h1
  rw [if_neg hne] at h1
  refine ⟨h1, ?_⟩
  unfold cmpL cmpV
  rw [h1]
  by_cases e : nth a k < nth b k
  · rw [if_pos (decide_eq_true e), if_pos e]
  · rw [if_neg (by simpa using e), if_neg e, if_neg (fun e2 => by have := h2.1 e2; injection this with this; exact hne this), if_pos (by omega)]
theorem cmpV_ne {a b : Int} (h : a ≠ b) : cmpV a b ≠ 0 := by
  unfold cmpV
  split
  · omega
  · split <;> omega
theorem cmpV_same (a : Int) : cmpV a a = 0 := by unfold cmpV; rw [if_neg (by omega), if_neg (by omega)]

set_option maxHeartbeats 4000000 in
set_option maxRecDepth 100000 in
theorem compareL_any (v1 : Value) (a : List Int) (lo1 hi1 : Nat) (v2 : Value) (b : List Int) (lo2 hi2 : Nat) (w : World) (h1 : IntS w lo1 hi1 v1 a) (hh1 : hi1 ≤ w.heap.size) (h2 : IntS w lo2 hi2 v2 b) (hh2 : hi2 ≤ w.heap.size)  :
    Calls Try.prog 60 #[v1, v2] w fun e w' => e = .returned (.int .i64 (cmpL a b)) ∧ w = w' := by
  have F1 := Lib.hid h1
  have F2 := Lib.hid h2
  obtain ⟨A1, c1, rfl, hc1, hd1⟩ := h1.dims
  obtain ⟨A2, c2, rfl, hc2, hd2⟩ := h2.dims
  clear h1 h2
  have HP0 : Hid (∀ (x y : Int) (W : World), Calls Try.prog 64 #[.int .i64 x, .int .i64 y] W fun e w' => e = .returned (.int .i64 (cmpV x y)) ∧ w' = W) := Lib.hid (fun x y W => by rw [← cmpV_eq]; exact Try.cmp_Compare_int x y W)
  go_enter Try.func60, Try.ntmps60
  go_wp2_with fail
  go_loop [11] (fun i => ∃ k : Nat, k ≤ a.length ∧ k ≤ b.length ∧ i = .int .i64 k ∧ Hid (a.take k = b.take k)) (fun i => a.length - (intOf i).toNat)
  case atStart => exact ⟨0, Nat.zero_le _, Nat.zero_le _, rfl, Lib.hid rfl⟩
  case round =>
    obtain ⟨k, hka, hkb, rfl, HE⟩ := hrel
    by_cases ha : k < a.length
    case neg =>
      obtain rfl : k = a.length := by omega
      by_cases hb : a.length < b.length
      case pos =>
        have hbi : (a.length : Int) < b.length := by omega
        have HR := Lib.hid (lt_short rfl hb HE.out).2
        go_wp2_with fail
        go_ret
        exact ⟨ret_int HR.out.symm, rfl⟩
      have hbi : ¬ (a.length : Int) < b.length := by omega
      have HR := Lib.hid (lt_same rfl (by omega) HE.out).2
      go_wp2_with fail
      go_ret
      exact ⟨ret_int HR.out.symm, rfl⟩
    have hai : (k : Int) < a.length := by omega
    obtain ⟨b1, o1, rfl, _, _, x1, _⟩ := IntS.opened F1.out ha
    by_cases hb : k < b.length
    case neg =>
      have hbi : (b.length : Int) ≤ k := by omega
      have HR := Lib.hid (lt_long ha (by omega) HE.out).2
      go_wp2_with fail
      go_ret
      exact ⟨ret_int HR.out.symm, rfl⟩
    have hbi : ¬ (b.length : Int) ≤ k := by omega
    have hbi2 : (k : Int) < b.length := by omega
    obtain ⟨b2, o2, rfl, _, _, x2, _⟩ := IntS.opened F2.out hb
    by_cases e : nth a k = nth b k
    case pos =>
      have HN := Lib.hid (take_same ha hb HE.out e)
      obtain ⟨x, HX⟩ : ∃ x, Hid (nth b k = x) := ⟨_, Lib.hid rfl⟩
      rw [e, HX.out] at x1
      rw [HX.out] at x2
      clear e
      go_wp2_with (go_at_call 64; refine (HP0.out x x _).mono ?_; rintro e w' ⟨rfl, rfl⟩; rw [cmpV_same])
      go_roundw
      case rel => exact ⟨k + 1, by omega, by omega, by go_num, HN⟩
      case measure => simp [intOf]; omega
    have HR := Lib.hid (lt_diff ha hb HE.out e).2
    have hne := cmpV_ne e
    obtain ⟨x, HX⟩ : ∃ x, Hid (nth a k = x) := ⟨_, Lib.hid rfl⟩
    obtain ⟨y, HY⟩ : ∃ x, Hid (nth b k = x) := ⟨_, Lib.hid rfl⟩
    rw [HX.out] at x1 HR hne
    rw [HY.out] at x2 HR hne
    obtain ⟨c, HC⟩ : ∃ c, Hid (cmpV x y = c) := ⟨_, Lib.hid rfl⟩
    rw [HC.out] at HR hne
    have hne' : (c != 0) = true := by simpa using hne
    clear e hne
    go_wp2_with (go_at_call 64; refine (HP0.out x y _).mono ?_; rintro e w' ⟨rfl, rfl⟩; rw [HC.out])
    go_ret
    exact ⟨ret_int HR.out.symm, rfl⟩

set_option maxHeartbeats 4000000 in
set_option maxRecDepth 100000 in
theorem isBefore_any (v1 : Value) (a : List Int) (lo1 hi1 : Nat) (v2 : Value) (b : List Int) (lo2 hi2 : Nat) (w : World) (h1 : IntS w lo1 hi1 v1 a) (hh1 : hi1 ≤ w.heap.size) (h2 : IntS w lo2 hi2 v2 b) (hh2 : hi2 ≤ w.heap.size)  :
    Calls Try.prog 52 #[v1, v2] w fun e w' => e = .returned (.bool (ltL a b)) ∧ Below w.heap.size w w' := by
  have F1 := Lib.hid h1
  have F2 := Lib.hid h2
  obtain ⟨A1, c1, rfl, hc1, hd1⟩ := h1.dims
  obtain ⟨A2, c2, rfl, hc2, hd2⟩ := h2.dims
  clear h1 h2
  go_enter Try.func52, Try.ntmps52
  go_wp2_with fail
  go_loopw [5] (fun i wr => ∃ k : Nat, k ≤ a.length ∧ k ≤ b.length ∧ i = .int .i64 k ∧ Hid (a.take k = b.take k) ∧ Hid (Below w.heap.size w wr)) (fun i _ => a.length - (intOf i).toNat)
  case atStart => exact ⟨0, Nat.zero_le _, Nat.zero_le _, rfl, Lib.hid rfl, Lib.hid (Below.refl _ _)⟩
  case round =>
    obtain ⟨k, hka, hkb, rfl, HE, HB⟩ := hrel
    have hsB := HB.out.size
    by_cases ha : k < a.length
    case neg =>
      obtain rfl : k = a.length := by omega
      have hkk : ¬ (a.length : Int) < (a.length : Int) := by omega
      by_cases hb : a.length < b.length
      case pos =>
        have hbi : (a.length : Int) < b.length := by omega
        have hbd : decide ((a.length : Int) < b.length) = true := decide_eq_true hbi
        have HR := Lib.hid (lt_short rfl hb HE.out).1
        go_wp2_with fail
        go_ret
        exact ⟨ret_bool HR.out.symm, HB.out⟩
      have hbi : ¬ (a.length : Int) < b.length := by omega
      have hbd : decide ((a.length : Int) < b.length) = false := decide_eq_false hbi
      have HR := Lib.hid (lt_same rfl (by omega) HE.out).1
      go_wp2_with fail
      go_ret
      exact ⟨ret_bool HR.out.symm, HB.out⟩
    have hai : (k : Int) < a.length := by omega
    have had : decide ((k : Int) < a.length) = true := decide_eq_true hai
    obtain ⟨b1, o1, rfl, _, _, x1, _⟩ := IntS.opened (IntS.below F1.out HB.out hh1) ha
    by_cases hb : k < b.length
    case neg =>
      obtain rfl : k = b.length := by omega
      have hbi : ¬ (b.length : Int) < b.length := by omega
      have hab : ¬ (a.length : Int) < b.length := by omega
      have habd : decide ((a.length : Int) < b.length) = false := decide_eq_false hab
      have HR := Lib.hid (lt_long ha rfl HE.out).1
      go_wp2_with fail
      go_ret
      exact ⟨ret_bool HR.out.symm, HB.out⟩
    have hbi2 : (k : Int) < b.length := by omega
    have hbd : decide ((k : Int) < b.length) = true := decide_eq_true hbi2
    obtain ⟨b2, o2, rfl, _, _, x2, _⟩ := IntS.opened (IntS.below F2.out HB.out hh2) hb
    by_cases e : nth a k = nth b k
    case pos =>
      have HN := Lib.hid (take_same ha hb HE.out e)
      obtain ⟨x, HX⟩ : ∃ x, Hid (nth b k = x) := ⟨_, Lib.hid rfl⟩
      rw [e, HX.out] at x1
      rw [HX.out] at x2
      have hxx : (x != x) = false := by simp
      clear e
      go_wp2_with fail
      go_quiet (fail)
      go_wp2_with fail
      go_roundw
      case rel => exact ⟨k + 1, by omega, by omega, by go_num, HN, Lib.hid (HB.out.trans (below_drewN (Below.refl _ _) _))⟩
      case measure => simp [intOf]; omega
    have HR := Lib.hid (lt_diff ha hb HE.out e).1
    obtain ⟨x, HX⟩ : ∃ x, Hid (nth a k = x) := ⟨_, Lib.hid rfl⟩
    obtain ⟨y, HY⟩ : ∃ x, Hid (nth b k = x) := ⟨_, Lib.hid rfl⟩
    rw [HX.out] at x1 HR e
    rw [HY.out] at x2 HR e
    have hne' : (x != y) = true := by simpa using e
    clear e
    go_wp2_with fail
    go_quiet (fail)
    go_wp2_with fail
    go_quiet (fail)
    go_wp2_with fail
    go_ret
    exact ⟨ret_bool HR.out.symm, below_drewN (below_drewN HB.out _) _⟩

end Go.Proofs.Ytmdlginjblnfoaa
