/-
  Several texts in one: CmL, SSet, BoolS, IsNet, Ori, Wk. No condition on any program.
-/
import Derived.Test.YtmdlginjblnfoaaGreatCzG
import Derived.Test.YtmdlginjblnfoaaGreatCzE
import Derived.Test.YtmdlginjblnfoaaGreatShelf
import Derived.Test.YtmdlginjblnfoaaGreatCzD
import Derived.Deep.Cut
import Derived.Test.YtmdlginjblnfoaaGreatCzF
import Derived.Deep.AppendLies

/- Contracts: lexicographic comparison of lists (slices.Compare and isBefore). -/
namespace Go.Proofs.YtmdlginjblnfoaaGreat
open Go.ChangeShapes Go.WideShapes Go.ChangeAt Go.RowKit
set_option linter.unusedVariables false

def cmpV (a b : Int) : Int := if a < b then -1 else if b < a then 1 else 0
theorem cmpV_eq (a b : Int) : Lib.compareInt a b = cmpV a b := by unfold Lib.compareInt cmpV; rfl
def cmpL (a b : List Int) : Int := if ltL a b = true then -1 else if a = b then 0 else 1
theorem ltL_drop : ∀ (k : Nat) (a b : List Int), k ≤ a.length → k ≤ b.length → a.take k = b.take k → ltL a b = ltL (a.drop k) (b.drop k) ∧ (a = b ↔ a.drop k = b.drop k)
  | 0, a, b, _, _, _ => ⟨rfl, Iff.rfl⟩
  | k + 1, [], _, h, _, _ => by simp at h
  | k + 1, _ :: _, [], _, h, _ => by simp at h
  | k + 1, x :: a, y :: b, h1, h2, e => by
    simp only [List.take_succ_cons, List.cons.injEq] at e
    obtain ⟨rfl, e⟩ := e
    obtain ⟨i1, i2⟩ := ltL_drop k a b (by simpa using h1) (by simpa using h2) e
    refine ⟨by simp only [ltL, if_pos, List.drop_succ_cons]; exact i1, ?_⟩
    simp only [List.cons.injEq, true_and, List.drop_succ_cons]
    exact i2
theorem drop_cons {a : List Int} {k : Nat} (h : k < a.length) : a.drop k = nth a k :: a.drop (k + 1) := by rw [List.drop_eq_getElem_cons h, nth_eq h]
theorem take_same {a b : List Int} {k : Nat} (ha : k < a.length) (hb : k < b.length) (h : a.take k = b.take k) (e : nth a k = nth b k) : a.take (k + 1) = b.take (k + 1) := by
  rw [List.take_succ_eq_append_getElem ha, List.take_succ_eq_append_getElem hb, h, ← nth_eq ha, ← nth_eq hb, e]
theorem lt_long {a b : List Int} {k : Nat} (ha : k < a.length) (hb : b.length = k) (h : a.take k = b.take k) : ltL a b = false ∧ cmpL a b = 1 := by
  obtain ⟨h1, h2⟩ := ltL_drop k a b (by omega) (by omega) h
  rw [drop_cons ha, show b.drop k = [] from List.drop_eq_nil_of_le (by omega)] at h1 h2
  have h3 : ltL a b = false := h1
  refine ⟨h3, ?_⟩
  unfold cmpL
  rw [h3, if_neg (by decide), if_neg (fun e => by have := h2.1 e; cases this)]
theorem lt_short {a b : List Int} {k : Nat} (ha : a.length = k) (hb : k < b.length) (h : a.take k = b.take k) : ltL a b = true ∧ cmpL a b = -1 := by
  obtain ⟨h1, _⟩ := ltL_drop k a b (by omega) (by omega) h
  rw [drop_cons hb, show a.drop k = [] from List.drop_eq_nil_of_le (by omega)] at h1
  have h3 : ltL a b = true := h1
  exact ⟨h3, by unfold cmpL; rw [h3, if_pos rfl]⟩
theorem lt_same {a b : List Int} {k : Nat} (ha : a.length = k) (hb : b.length = k) (h : a.take k = b.take k) : ltL a b = false ∧ cmpL a b = 0 := by
  have e : a = b := by rw [List.take_of_length_le (by omega), List.take_of_length_le (by omega)] at h; exact h
  subst e
  exact ⟨ltL_irr a, by unfold cmpL; rw [ltL_irr, if_neg (by decide), if_pos rfl]⟩
theorem lt_diff {a b : List Int} {k : Nat} (ha : k < a.length) (hb : k < b.length) (h : a.take k = b.take k) (hne : nth a k ≠ nth b k) : ltL a b = decide (nth a k < nth b k) ∧ cmpL a b = cmpV (nth a k) (nth b k) := by
  obtain ⟨h1, h2⟩ := ltL_drop k a b (by omega) (by omega) h
  rw [drop_cons ha, drop_cons hb] at h1 h2
  simp only [ltL] at h1
  rw [if_neg hne] at h1
  refine ⟨h1, ?_⟩
  unfold cmpL cmpV
  rw [h1]
  by_cases e : nth a k < nth b k
  · rw [if_pos (decide_eq_true e), if_pos e]
  · rw [if_neg (by simpa using e), if_neg e, if_neg (fun e2 => by have := h2.1 e2; injection this with this; exact hne this), if_pos (by omega)]
theorem cmpV_ne {a b : Int} (h : a ≠ b) : cmpV a b ≠ 0 := by
  unfold cmpV
  split
  · omega
  · split <;> omega
theorem cmpV_same (a : Int) : cmpV a a = 0 := by unfold cmpV; rw [if_neg (by omega), if_neg (by omega)]

set_option maxHeartbeats 4000000 in
set_option maxRecDepth 100000 in
theorem compareL_any (v1 : Value) (a : List Int) (lo1 hi1 : Nat) (v2 : Value) (b : List Int) (lo2 hi2 : Nat) (w : World) (h1 : IntS w lo1 hi1 v1 a) (hh1 : hi1 ≤ w.heap.size) (h2 : IntS w lo2 hi2 v2 b) (hh2 : hi2 ≤ w.heap.size)  :
    Calls Tryz.prog 52 #[v1, v2] w fun e w' => e = .returned (.int .i64 (cmpL a b)) ∧ w = w' := by
  have F1 := Lib.hid h1
  have F2 := Lib.hid h2
  obtain ⟨A1, c1, rfl, hc1, hd1⟩ := h1.dims
  obtain ⟨A2, c2, rfl, hc2, hd2⟩ := h2.dims
  clear h1 h2
  have HP0 : Hid (∀ (x y : Int) (W : World), Calls Tryz.prog 56 #[.int .i64 x, .int .i64 y] W fun e w' => e = .returned (.int .i64 (cmpV x y)) ∧ w' = W) := Lib.hid (fun x y W => by rw [← cmpV_eq]; exact Tryz.cmp_Compare_int x y W)
  go_enter Tryz.func52, Tryz.ntmps52
  go_wp2_with fail
  go_loop [11] (fun i => ∃ k : Nat, k ≤ a.length ∧ k ≤ b.length ∧ i = .int .i64 k ∧ Hid (a.take k = b.take k)) (fun i => a.length - (intOf i).toNat)
  case atStart => exact ⟨0, Nat.zero_le _, Nat.zero_le _, rfl, Lib.hid rfl⟩
  case round =>
    obtain ⟨k, hka, hkb, rfl, HE⟩ := hrel
    by_cases ha : k < a.length
    case neg =>
      obtain rfl : k = a.length := by omega
      by_cases hb : a.length < b.length
      case pos =>
        have hbi : (a.length : Int) < b.length := by omega
        have HR := Lib.hid (lt_short rfl hb HE.out).2
        go_wp2_with fail
        go_ret
        exact ⟨ret_int HR.out.symm, rfl⟩
      have hbi : ¬ (a.length : Int) < b.length := by omega
      have HR := Lib.hid (lt_same rfl (by omega) HE.out).2
      go_wp2_with fail
      go_ret
      exact ⟨ret_int HR.out.symm, rfl⟩
    have hai : (k : Int) < a.length := by omega
    obtain ⟨b1, o1, rfl, _, _, x1, _⟩ := IntS.opened F1.out ha
    by_cases hb : k < b.length
    case neg =>
      have hbi : (b.length : Int) ≤ k := by omega
      have HR := Lib.hid (lt_long ha (by omega) HE.out).2
      go_wp2_with fail
      go_ret
      exact ⟨ret_int HR.out.symm, rfl⟩
    have hbi : ¬ (b.length : Int) ≤ k := by omega
    have hbi2 : (k : Int) < b.length := by omega
    obtain ⟨b2, o2, rfl, _, _, x2, _⟩ := IntS.opened F2.out hb
    by_cases e : nth a k = nth b k
    case pos =>
      have HN := Lib.hid (take_same ha hb HE.out e)
      obtain ⟨x, HX⟩ : ∃ x, Hid (nth b k = x) := ⟨_, Lib.hid rfl⟩
      rw [e, HX.out] at x1
      rw [HX.out] at x2
      clear e
      go_wp2_with (go_at_call 56; refine (HP0.out x x _).mono ?_; rintro e w' ⟨rfl, rfl⟩; rw [cmpV_same])
      go_roundw
      case rel => exact ⟨k + 1, by omega, by omega, by go_num, HN⟩
      case measure => simp [intOf]; omega
    have HR := Lib.hid (lt_diff ha hb HE.out e).2
    have hne := cmpV_ne e
    obtain ⟨x, HX⟩ : ∃ x, Hid (nth a k = x) := ⟨_, Lib.hid rfl⟩
    obtain ⟨y, HY⟩ : ∃ x, Hid (nth b k = x) := ⟨_, Lib.hid rfl⟩
    rw [HX.out] at x1 HR hne
    rw [HY.out] at x2 HR hne
    obtain ⟨c, HC⟩ : ∃ c, Hid (cmpV x y = c) := ⟨_, Lib.hid rfl⟩
    rw [HC.out] at HR hne
    have hne' : (c != 0) = true := by simpa using hne
    clear e hne
    go_wp2_with (go_at_call 56; refine (HP0.out x y _).mono ?_; rintro e w' ⟨rfl, rfl⟩; rw [HC.out])
    go_ret
    exact ⟨ret_int HR.out.symm, rfl⟩

set_option maxHeartbeats 4000000 in
set_option maxRecDepth 100000 in
theorem isBefore_any (v1 : Value) (a : List Int) (lo1 hi1 : Nat) (v2 : Value) (b : List Int) (lo2 hi2 : Nat) (w : World) (h1 : IntS w lo1 hi1 v1 a) (hh1 : hi1 ≤ w.heap.size) (h2 : IntS w lo2 hi2 v2 b) (hh2 : hi2 ≤ w.heap.size)  :
    Calls Tryz.prog 42 #[v1, v2] w fun e w' => e = .returned (.bool (ltL a b)) ∧ Below w.heap.size w w' := by
  have F1 := Lib.hid h1
  have F2 := Lib.hid h2
  obtain ⟨A1, c1, rfl, hc1, hd1⟩ := h1.dims
  obtain ⟨A2, c2, rfl, hc2, hd2⟩ := h2.dims
  clear h1 h2
  go_enter Tryz.func42, Tryz.ntmps42
  go_wp2_with fail
  go_loopw [5] (fun i wr => ∃ k : Nat, k ≤ a.length ∧ k ≤ b.length ∧ i = .int .i64 k ∧ Hid (a.take k = b.take k) ∧ Hid (Below w.heap.size w wr)) (fun i _ => a.length - (intOf i).toNat)
  case atStart => exact ⟨0, Nat.zero_le _, Nat.zero_le _, rfl, Lib.hid rfl, Lib.hid (Below.refl _ _)⟩
  case round =>
    obtain ⟨k, hka, hkb, rfl, HE, HB⟩ := hrel
    have hsB := HB.out.size
    by_cases ha : k < a.length
    case neg =>
      obtain rfl : k = a.length := by omega
      have hkk : ¬ (a.length : Int) < (a.length : Int) := by omega
      by_cases hb : a.length < b.length
      case pos =>
        have hbi : (a.length : Int) < b.length := by omega
        have hbd : decide ((a.length : Int) < b.length) = true := decide_eq_true hbi
        have HR := Lib.hid (lt_short rfl hb HE.out).1
        go_wp2_with fail
        go_ret
        exact ⟨ret_bool HR.out.symm, HB.out⟩
      have hbi : ¬ (a.length : Int) < b.length := by omega
      have hbd : decide ((a.length : Int) < b.length) = false := decide_eq_false hbi
      have HR := Lib.hid (lt_same rfl (by omega) HE.out).1
      go_wp2_with fail
      go_ret
      exact ⟨ret_bool HR.out.symm, HB.out⟩
    have hai : (k : Int) < a.length := by omega
    have had : decide ((k : Int) < a.length) = true := decide_eq_true hai
    obtain ⟨b1, o1, rfl, _, _, x1, _⟩ := IntS.opened (IntS.below F1.out HB.out hh1) ha
    by_cases hb : k < b.length
    case neg =>
      obtain rfl : k = b.length := by omega
      have hbi : ¬ (b.length : Int) < b.length := by omega
      have hab : ¬ (a.length : Int) < b.length := by omega
      have habd : decide ((a.length : Int) < b.length) = false := decide_eq_false hab
      have HR := Lib.hid (lt_long ha rfl HE.out).1
      go_wp2_with fail
      go_ret
      exact ⟨ret_bool HR.out.symm, HB.out⟩
    have hbi2 : (k : Int) < b.length := by omega
    have hbd : decide ((k : Int) < b.length) = true := decide_eq_true hbi2
    obtain ⟨b2, o2, rfl, _, _, x2, _⟩ := IntS.opened (IntS.below F2.out HB.out hh2) hb
    by_cases e : nth a k = nth b k
    case pos =>
      have HN := Lib.hid (take_same ha hb HE.out e)
      obtain ⟨x, HX⟩ : ∃ x, Hid (nth b k = x) := ⟨_, Lib.hid rfl⟩
      rw [e, HX.out] at x1
      rw [HX.out] at x2
      have hxx : (x != x) = false := by simp
      clear e
      go_wp2_with fail
      go_quiet (fail)
      go_wp2_with fail
      go_roundw
      case rel => exact ⟨k + 1, by omega, by omega, by go_num, HN, Lib.hid (HB.out.trans (below_drewN (Below.refl _ _) _))⟩
      case measure => simp [intOf]; omega
    have HR := Lib.hid (lt_diff ha hb HE.out e).1
    obtain ⟨x, HX⟩ : ∃ x, Hid (nth a k = x) := ⟨_, Lib.hid rfl⟩
    obtain ⟨y, HY⟩ : ∃ x, Hid (nth b k = x) := ⟨_, Lib.hid rfl⟩
    rw [HX.out] at x1 HR e
    rw [HY.out] at x2 HR e
    have hne' : (x != y) = true := by simpa using e
    clear e
    go_wp2_with fail
    go_quiet (fail)
    go_wp2_with fail
    go_quiet (fail)
    go_wp2_with fail
    go_ret
    exact ⟨ret_bool HR.out.symm, below_drewN (below_drewN HB.out _) _⟩

end Go.Proofs.YtmdlginjblnfoaaGreat

/- Slices of slices of numbers that a call writes into: one number set, one row set. No condition on any program. -/
namespace Go.Proofs.YtmdlginjblnfoaaGreat
open Go.RowKit
set_option linter.unusedVariables false

/-- one number of a list of lists replaced -/
def setAt (xss : List (List Int)) (a i : Nat) (z : Int) : List (List Int) := xss.set a ((nthL xss a).set i z)
theorem setAt_length (xss : List (List Int)) (a i : Nat) (z : Int) : (setAt xss a i z).length = xss.length := by simp [setAt]
theorem nthL_set {α : Type} {xss : List (List α)} {a : Nat} (ha : a < xss.length) (x : List α) (j : Nat) : nthL (xss.set a x) j = if j = a then x else nthL xss j := by
  unfold nthL
  simp only [List.getD_eq_getElem?_getD, List.getElem?_set]
  by_cases e : a = j
  · subst e; simp [ha]
  · rw [if_neg e, if_neg (fun h => e h.symm)]
theorem nthL_setAt {xss : List (List Int)} {a : Nat} (ha : a < xss.length) (i : Nat) (z : Int) (j : Nat) : nthL (setAt xss a i z) j = if j = a then (nthL xss a).set i z else nthL xss j := nthL_set ha _ _
theorem setAt_row (xss : List (List Int)) {a : Nat} (ha : a < xss.length) (i : Nat) (z : Int) (j : Nat) : (nthL (setAt xss a i z) j).length = (nthL xss j).length := by
  rw [nthL_setAt ha]
  by_cases e : j = a
  · rw [if_pos e, List.length_set, e]
  · rw [if_neg e]

/-- a place of a slice of slices whose rows lie apart: its cells, and what a store leaves -/
theorem ISSx.place {w : World} {lo hi n c : Nat} {A : Option Addr} {xss : List (List Int)} (h : IntSSx w lo hi (.slice A n c) xss) (hh : hi ≤ w.heap.size) {a i : Nat} (ha : a < xss.length) (hi' : i < (nthL xss a).length) :
    ∃ b off b2 o2 c2, A = some ⟨b, off, none⟩ ∧ lo ≤ b ∧ b < hi ∧ lo ≤ b2 ∧ b2 < hi ∧ w.cell? ⟨b, off + a, none⟩ = some (.slice (some ⟨b2, o2, none⟩) (nthL xss a).length c2) ∧ (nthL xss a).length ≤ c2 ∧ c2 ≤ 9223372036854775807 ∧
      w.cell? ⟨b2, o2 + i, none⟩ = some (.int .i64 (nth (nthL xss a) i)) ∧ w.frozen? ⟨b2, o2 + i, none⟩ = false ∧ ∀ z, IntSSx (w.setCell ⟨b2, o2 + i, none⟩ (.int .i64 z)) lo hi (.slice A n c) (setAt xss a i z) := by
  obtain ⟨vs, h1, h2, h3, h4⟩ := h
  have hrow := h2 a ha
  obtain ⟨A2, c2, e2, k1, k2⟩ := IntS.dims hrow
  rw [e2] at hrow
  obtain ⟨b2, o2, rfl, l1, l2, x1, x2⟩ := IntS.opened hrow hi'
  have htop := h1
  obtain ⟨A', c', e, m1, m2, m3⟩ := h1
  injection e with e3 e4 e5
  subst e3 e5
  obtain ⟨b, off, rfl, n1, n2, n3⟩ := m3 (by omega)
  have hva : w.cell? ⟨b, off + a, none⟩ = some (vs a) := (n3 a (by omega)).1
  rw [e2] at hva
  refine ⟨b, off, b2, o2, c2, rfl, n1, n2, l1, l2, hva, k1, k2, x1, x2, fun z => ?_⟩
  have hra : rowOf (nthL xss a).length (vs a) = some b2 := by rw [e2]; exact rowOf_some (by omega)
  have hg : w.grownBy (w.setCell ⟨b2, o2 + i, none⟩ (.int .i64 z)) (some b2) := grown_set w ⟨b2, o2 + i, none⟩ _
  have hlen : ∀ j, (nthL (setAt xss a i z) j).length = (nthL xss j).length := setAt_row xss ha i z
  refine ⟨vs, ?_, fun j hj => ?_, fun j k hjk hk => ?_, fun j hj => ?_⟩
  · rw [setAt_length]
    refine Sl.grown htop hg hh ?_
    have := h4 a ha
    rw [hra] at this
    rcases this with t | t
    · cases t
    · exact .inr fun e => t e.symm
  · rw [setAt_length] at hj
    rw [nthL_setAt ha]
    by_cases ej : j = a
    · subst ej
      rw [if_pos rfl, e2]
      exact hrow.set hi' z
    · rw [if_neg ej]
      refine Sl.grown (h2 j hj) hg hh ?_
      rw [← hra]
      by_cases hlt : j < a
      · exact h3 j a hlt ha
      · rcases h3 a j (by omega) hj with t | t
        · rw [hra] at t; cases t
        · exact .inr fun e => t e.symm
  · rw [setAt_length] at hk
    rw [hlen j, hlen k]
    exact h3 j k hjk hk
  · rw [setAt_length] at hj ⊢
    rw [hlen j]
    exact h4 j hj

theorem ISSx.far {w w' : World} {lo hi : Nat} {v : Value} {xss : List (List Int)} {row : Option Nat} (h : IntSSx w lo hi v xss) (hg : w.grownBy w' row) (hB : hi ≤ w.heap.size) (hr : ∀ g, row = some g → g < lo ∨ hi ≤ g) : IntSSx w' lo hi v xss :=
  SSx.keep (fun h => IntS.far h hg hB hr) h fun k h1 h2 => hg.block k (by omega) (fun e => by have := hr k e.symm; omega)
theorem ISSx.still {w w' : World} {lo hi : Nat} {v : Value} {xss : List (List Int)} (h : IntSSx w lo hi v xss) (hg : w.grownBy w' none) (hB : hi ≤ w.heap.size) : IntSSx w' lo hi v xss := ISSx.far h hg hB (no_row _ _)
theorem ISSx.dims {w : World} {lo hi : Nat} {v : Value} {xss : List (List Int)} (h : IntSSx w lo hi v xss) : ∃ A c, v = .slice A xss.length c ∧ xss.length ≤ c ∧ c ≤ 9223372036854775807 := SS.dims h.ss
/-- a row of empty slices just made -/
theorem ISSx.made {w : World} {b n : Nat} {t : TypeId} (h : w.rowIs b t n (fun _ => .slice none 0 0)) (hm : n ≤ maxLen) : IntSSx w b (b + 1) (.slice (some ⟨b, 0, none⟩) n n) (List.replicate n []) := by
  refine ⟨fun _ => .slice none 0 0, ?_, fun j hj => ?_, fun j k hjk hk => ?_, fun j hj => ?_⟩
  · refine ⟨_, _, by rw [List.length_replicate], by rw [List.length_replicate]; exact Nat.le_refl _, hm, fun hpos => ⟨b, 0, rfl, Nat.le_refl _, by omega, fun j hj => ?_⟩⟩
    rw [List.length_replicate] at hj
    rw [Nat.zero_add]
    exact ⟨h.cell (by omega), h.frozen j⟩
  · have : nthL (List.replicate n ([] : List Int)) j = [] := by simp [nthL, List.getElem?_replicate]; split <;> rfl
    rw [this]; exact IntS.nil _ _ _
  · left; unfold rowOf; rw [if_pos]; simp [nthL, List.getElem?_replicate]; split <;> rfl
  · left; unfold rowOf; rw [if_pos]; simp [nthL, List.getElem?_replicate]; split <;> rfl

end Go.Proofs.YtmdlginjblnfoaaGreat

/- Slices of truth values in memory; plain laws on least free numbers and on permutations. -/
namespace Go.Proofs.YtmdlginjblnfoaaGreat
open Go.RowKit
set_option linter.unusedVariables false

def nthB (bs : List Bool) (i : Nat) : Bool := bs.getD i false
theorem nthB_eq {bs : List Bool} {i : Nat} (h : i < bs.length) : nthB bs i = bs[i] := by simp [nthB, h]
theorem nthB_set (bs : List Bool) (j i : Nat) (b : Bool) (hj : j < bs.length) : nthB (bs.set j b) i = if i = j then b else nthB bs i := by
  unfold nthB
  simp only [List.getD_eq_getElem?_getD, List.getElem?_set]
  by_cases e : j = i
  · subst e; simp [hj]
  · rw [if_neg e, if_neg (fun h => e h.symm)]
theorem nthB_replicate (n : Nat) (b : Bool) {i : Nat} (h : i < n) : nthB (List.replicate n b) i = b := by rw [nthB_eq (by simpa using h)]; simp
/-- v reads as the list of truth values bs -/
def BoolS (w : World) (lo hi : Nat) (v : Value) (bs : List Bool) : Prop := Sl w lo hi 1 v bs.length fun j => .bool (nthB bs j)
section
variable {w w' : World} {lo hi lo' hi' B l2 h2 : Nat} {v : Value} {bs : List Bool} {row : Option Nat}
theorem BoolS.dims (h : BoolS w lo hi v bs) : ∃ A c, v = .slice A bs.length c ∧ bs.length ≤ c ∧ c ≤ 9223372036854775807 := by
  obtain ⟨A, c, e, h1, h2, _⟩ := h; unfold maxLen at h2; exact ⟨A, c, e, h1, h2⟩
theorem BoolS.below (h : BoolS w lo hi v bs) (hb : Below B w w') (hB : hi ≤ B) : BoolS w' lo hi v bs := Sl.below h hb hB
theorem BoolS.turned (h : BoolS w lo hi v bs) (hb : Turned l2 h2 w w') (hB : hi ≤ w.heap.size) (hd : hi ≤ l2 ∨ h2 ≤ lo) : BoolS w' lo hi v bs := Sl.turned h hb hB hd
theorem BoolS.mono (h : BoolS w lo hi v bs) (h1 : lo' ≤ lo) (h2 : hi ≤ hi') : BoolS w lo' hi' v bs := Sl.mono h h1 h2
theorem BoolS.far (h : BoolS w lo hi v bs) (hg : w.grownBy w' row) (hB : hi ≤ w.heap.size) (hr : ∀ g, row = some g → g < lo ∨ hi ≤ g) : BoolS w' lo hi v bs :=
  Sl.keep h fun k h1 h2 => hg.block k (by omega) (fun e => by have := hr k e.symm; omega)
theorem BoolS.still (h : BoolS w lo hi v bs) (hg : w.grownBy w' none) (hB : hi ≤ w.heap.size) : BoolS w' lo hi v bs := h.far hg hB (no_row _ _)
theorem BoolS.at_ {b off n c : Nat} (h : BoolS w lo hi (.slice (some ⟨b, off, none⟩) n c) bs) {j : Nat} (hj : j < bs.length) : w.cell? ⟨b, off + j, none⟩ = some (.bool (nthB bs j)) ∧ w.frozen? ⟨b, off + j, none⟩ = false := by
  obtain ⟨A, c', e, _⟩ := id h
  injection e with e1 e2 e3
  subst e2
  exact Sl.at_ h (by omega)
theorem BoolS.set {b off n c : Nat} (h : BoolS w lo hi (.slice (some ⟨b, off, none⟩) n c) bs) {j : Nat} (hj : j < bs.length) (z : Bool) :
    BoolS (w.setCell ⟨b, off + j, none⟩ (.bool z)) lo hi (.slice (some ⟨b, off, none⟩) n c) (bs.set j z) := by
  obtain ⟨A, c', e, _⟩ := id h
  injection e with e1 e2 e3
  subst e2
  have := Sl.set h (j := j) (by omega) (.bool z)
  unfold BoolS
  rw [List.length_set]
  exact this.congr fun i hi => by
    rw [nthB_set _ _ _ _ hj]
    by_cases e : i = j <;> simp [e]
theorem BoolS.at0 {b n c : Nat} (h : BoolS w lo hi (.slice (some ⟨b, 0, none⟩) n c) bs) {j : Nat} (hj : j < bs.length) : w.cell? ⟨b, j, none⟩ = some (.bool (nthB bs j)) ∧ w.frozen? ⟨b, j, none⟩ = false := by
  have := h.at_ hj; rwa [Nat.zero_add] at this
theorem BoolS.set0 {b n c : Nat} (h : BoolS w lo hi (.slice (some ⟨b, 0, none⟩) n c) bs) {j : Nat} (hj : j < bs.length) (z : Bool) :
    BoolS (w.setCell ⟨b, j, none⟩ (.bool z)) lo hi (.slice (some ⟨b, 0, none⟩) n c) (bs.set j z) := by
  have := h.set hj z; rwa [Nat.zero_add] at this
theorem BoolS.opened {A : Option Addr} {n c : Nat} (h : BoolS w lo hi (.slice A n c) bs) {j : Nat} (hj : j < bs.length) : ∃ b off, A = some ⟨b, off, none⟩ ∧ lo ≤ b ∧ b < hi ∧ w.cell? ⟨b, off + j, none⟩ = some (.bool (nthB bs j)) ∧ w.frozen? ⟨b, off + j, none⟩ = false := by
  obtain ⟨A', c', e, h1, h2, h3⟩ := id h
  injection e with e1 e2 e3
  subst e1
  obtain ⟨b, off, e4, h4, h5, h6⟩ := h3 (by omega)
  exact ⟨b, off, e4, h4, h5, h6 j (by omega)⟩
theorem BoolS.of_row {b n : Nat} {t : TypeId} (h : w.rowIs b t n (fun j => .bool (nthB bs j))) (hn : bs.length = n) (hm : n ≤ maxLen) : BoolS w b (b + 1) (.slice (some ⟨b, 0, none⟩) n n) bs := by
  subst hn
  refine ⟨_, _, rfl, Nat.le_refl _, hm, fun hpos => ⟨b, 0, rfl, Nat.le_refl _, by omega, fun j hj => ?_⟩⟩
  rw [Nat.zero_add]
  exact ⟨h.cell (by omega), h.frozen j⟩
end
/-- rows just made -/
theorem made_ints (w : World) (n : Nat) (t : TypeId) {g : Nat} (hg : w.heap.size = g) (hn : n ≤ 1099511627776) : IntS (w.alloc (.cells (madeCells #[.int .i64 0] n) t)) g (g + 1) (.slice (some ⟨g, 0, none⟩) n n) (List.replicate n 0) := by
  subst hg
  exact IntS.of_row (t := t) ((World.rowIs_made w (.int .i64 0) n t).congr fun j hj => by rw [nth_replicate _ _ hj]) (by simp) (by unfold maxLen; omega)
theorem made_bools (w : World) (n : Nat) (t : TypeId) {g : Nat} (hg : w.heap.size = g) (hn : n ≤ 1099511627776) : BoolS (w.alloc (.cells (madeCells #[.bool false] n) t)) g (g + 1) (.slice (some ⟨g, 0, none⟩) n n) (List.replicate n false) := by
  subst hg
  exact BoolS.of_row (t := t) ((World.rowIs_made w (.bool false) n t).congr fun j hj => by rw [nthB_replicate _ _ hj]) (by simp) (by unfold maxLen; omega)

end Go.Proofs.YtmdlginjblnfoaaGreat

/- Contract of the program's IsNetwork. -/
namespace Go.Proofs.YtmdlginjblnfoaaGreat
open Go.ChangeShapes Go.WideShapes Go.ChangeAt Go.RowKit
set_option linter.unusedVariables false

theorem hasPort_is (v : Value) (N : NetD) (x i : Int) (b : Bool) (hb : N.port x i = b) (lo hi : Nat) (w : World) (h : Net w lo hi v N) (hhi : hi ≤ w.heap.size) :
    Calls Tryz.prog 49 #[v, .int .i64 x, .int .i64 i] w fun e w' => e = .returned (.bool b) ∧ Below w.heap.size w w' := by
  rw [← hb]; exact hasPort_any v N x i lo hi w h hhi

set_option maxHeartbeats 4000000 in
set_option maxRecDepth 100000 in
theorem IsNetwork_any (v : Value) (N : NetD) (lo hi : Nat) (w : World) (h : Net w lo hi v N) (hhi : hi ≤ w.heap.size) (hsz : N.sz ≤ 1048576) :
    Calls Tryz.prog 21 #[v] w fun e w' => e = .returned (.bool N.good) ∧ Below w.heap.size w w' := by
  unfold NetD.sz at hsz
  have HNET := Lib.hid h
  obtain ⟨ve, vi, vn, rfl, he, hi1, hn1⟩ := h
  obtain ⟨A, c, rfl, hc1, hc2, hcell⟩ := he.form
  unfold maxLen at hc2
  have hle : N.ends.length ≤ 1048576 := by unfold szSS at hsz; omega
  obtain ⟨A2, c2, rfl⟩ := hi1.shape
  obtain ⟨A3, c3, rfl⟩ := hn1.shape
  have HI0 := Lib.hid hi1
  have HN0 := Lib.hid hn1
  obtain ⟨W0, HW0⟩ : ∃ W0, Hid (W0 = w.alloc (.cells #[.slice A N.ends.length c, .slice A2 N.ids.length c2, .slice A3 N.inputs.length c3] 32)) := ⟨_, Lib.hid rfl⟩
  have b0 : Box3 W0 w.heap.size 32 (.slice A N.ends.length c) (.slice A2 N.ids.length c2) (.slice A3 N.inputs.length c3) := by rw [HW0.out]; exact Box3.new w 32 _ _ _
  have hb0 : Below w.heap.size w W0 := by rw [HW0.out]; exact below_a1 _ _
  have hs0 : w.heap.size + 1 ≤ W0.heap.size := by rw [HW0.out]; simp
  clear he hi1 hn1
  by_cases g1 : inB N.ends.length 1 40 = true
  case neg =>
    have g1' : inB N.ends.length 1 40 = false := by simpa using g1
    clear g1 hcell b0
    go_enter Tryz.func21, Tryz.ntmps21
    go_wp2_with (go_at_call 46; refine (within_any _ _ _ _).mono ?_; rintro e w' ⟨rfl, rfl⟩)
    go_ret
    exact ⟨ret_bool (good_head (by unfold NetD.headOk; rw [g1']; rfl)).symm, below_a1 _ _⟩
  obtain ⟨n1, n40⟩ := inB_le g1
  obtain ⟨b, off, rfl, hb1, hb2, hcs⟩ := hcell (by omega)
  have HCS := Lib.hid hcs
  clear hcell hcs
  go_enter Tryz.func21, Tryz.ntmps21
  go_wp2_with (go_at_call 46; refine (within_any _ _ _ _).mono ?_; rintro e w' ⟨rfl, rfl⟩)
  rw [← HW0.out]
  clear HW0
  refine (idsOk_any _ N.ids _ lo hi _ (HI0.out.below hb0 hhi) (by omega) (by omega)).mono ?_
  rintro e w1 ⟨rfl, hb1'⟩
  have hs1 := hb1'.size
  have b1 := b0.below hb1' (by omega)
  have hw1 := hb0.trans (hb1'.mono (by omega))
  clear b0 hb0 hb1'
  by_cases g2 : idsGood N.ids N.ends.length = true
  case neg =>
    have g2' : idsGood N.ids N.ends.length = false := by simpa using g2
    rw [g2']
    go_wp2_with fail
    go_ret
    exact ⟨ret_bool (good_head (by unfold NetD.headOk; rw [g2']; simp)).symm, hw1⟩
  rw [g2]
  obtain ⟨c1', c2', c3'⟩ := b1.cells
  go_wp2_with fail
  clear c1' c2' c3'
  refine (inputsOk_any _ N.inputs _ lo hi _ (HN0.out.below hw1 hhi) (by omega)).mono ?_
  rintro e w2 ⟨rfl, hb2'⟩
  have hs2 := hb2'.size
  have b2 := b1.below hb2' (by omega)
  have hw2 := hw1.trans (hb2'.mono (by omega))
  clear b1 hw1 hb2'
  by_cases g3 : insGood N.inputs N.ends.length = true
  case neg =>
    have g3' : insGood N.inputs N.ends.length = false := by simpa using g3
    rw [g3']
    go_wp2_with fail
    go_ret
    exact ⟨ret_bool (good_head (by unfold NetD.headOk; rw [g3']; simp)).symm, hw2⟩
  rw [g3]
  have HD := Lib.hid (show N.headOk = true by unfold NetD.headOk; rw [g1, g2, g3]; rfl)
  have d1' := b2.cells.1
  go_wp2_with fail
  clear d1'
  go_loopw [33] (fun i wr => ∃ k : Nat, k ≤ N.ends.length ∧ i = .int .i64 k ∧ Hid (∀ j, j < k → N.rowOk j = true) ∧ Box3 wr w.heap.size 32 (.slice (some ⟨b, off, none⟩) N.ends.length c) (.slice A2 N.ids.length c2) (.slice A3 N.inputs.length c3) ∧ Below w.heap.size w wr) (fun i _ => N.ends.length - (intOf i).toNat)
  case atStart => exact ⟨0, Nat.zero_le _, rfl, Lib.hid fun j hj => absurd hj (by omega), b2, hw2⟩
  case round =>
    clear b2 hw2
    obtain ⟨k, hk, rfl, HU, hbx, hb⟩ := hrel
    have hs0 := hb.size
    by_cases hlt : k < N.ends.length
    case neg =>
      obtain rfl : k = N.ends.length := by omega
      go_wp2
      go_ret
      exact ⟨ret_bool (good_yes HD.out HU.out).symm, hb⟩
    obtain ⟨u, hu, hR⟩ := HCS.out k hlt
    obtain ⟨A4, c4, rfl, hd1, hd2, hcell4⟩ := hR.form
    unfold maxLen at hd2
    have hck := (hb.cell (p := ⟨b, off + k, none⟩) (by show b < _; omega)).trans hu
    have HC4 := Lib.hid hcell4
    clear hu hcell4 hR
    by_cases hl6 : (nthL N.ends k).length ≤ 6
    case neg =>
      have hl6' : (6 : Int) < (nthL N.ends k).length := by omega
      go_wp2
      go_ret
      exact ⟨ret_bool (good_row hlt (row_wide (by omega))).symm, hb⟩
    obtain ⟨wo, rfl⟩ : ∃ wo : World, wo = wr := ⟨_, rfl⟩
    go_wp2
    go_loopw [43] (fun i wi => ∃ m : Nat, m ≤ (nthL N.ends k).length ∧ i = .int .i64 m ∧ Hid (∀ j, j < m → N.endOk k j = true) ∧ Box3 wi w.heap.size 32 (.slice (some ⟨b, off, none⟩) N.ends.length c) (.slice A2 N.ids.length c2) (.slice A3 N.inputs.length c3) ∧ Below w.heap.size w wi) (fun i _ => (nthL N.ends k).length - (intOf i).toNat)
    case atStart => exact ⟨0, Nat.zero_le _, rfl, Lib.hid fun j hj => absurd hj (by omega), hbx, hb⟩
    case round =>
      clear hbx hb hck
      obtain ⟨m, hm, rfl, HV, hbx, hb⟩ := hrel
      have hs1 := hb.size
      by_cases hml : m < (nthL N.ends k).length
      case neg =>
        obtain rfl : m = (nthL N.ends k).length := by omega
        go_wp2
        go_roundw
        case rel =>
          refine ⟨k + 1, by omega, by go_num, Lib.hid fun j hj => ?_, hbx, hb⟩
          by_cases e : j = k
          · subst e; exact row_yes hl6 HV.out
          · exact HU.out j (by omega)
        case measure => simp [intOf]; omega
      obtain ⟨b4, off4, rfl, hb5, hb6, hcs4⟩ := HC4.out (by omega)
      obtain ⟨x1, x2⟩ := hcs4 m hml
      have e1 := (hb.cell (p := ⟨b4, off4 + m * 2, none⟩) (by show b4 < _; omega)).trans x1
      have e2 := (hb.cell (p := ⟨b4, off4 + m * 2 + 1, none⟩) (by show b4 < _; omega)).trans x2
      clear hcs4 x1 x2
      obtain ⟨p1, p2, HP⟩ : ∃ p1 p2, Hid (nthE (nthL N.ends k) m = (p1, p2)) := ⟨_, _, Lib.hid rfl⟩
      rw [HP.out] at e1 e2
      dsimp only at e1 e2
      obtain ⟨W, HW⟩ : ∃ W, Hid (W = wr.alloc (.cells #[.int .i64 p1, .int .i64 p2] 66)) := ⟨_, Lib.hid rfl⟩
      have hbW : Below w.heap.size w W := by rw [HW.out]; exact hb.alloc hs1 _
      have hbxW : Box3 W w.heap.size 32 (.slice (some ⟨b, off, none⟩) N.ends.length c) (.slice A2 N.ids.length c2) (.slice A3 N.inputs.length c3) := by rw [HW.out]; exact hbx.alloc _
      have hsW : W.heap.size = wr.heap.size + 1 := by rw [HW.out]; simp
      have o0 : W.cell? ⟨wr.heap.size, 0, none⟩ = some (.int .i64 p1) := by rw [HW.out, World.cell?_alloc_at _ _ _ _ rfl]; rfl
      have o1 : W.cell? ⟨wr.heap.size, 1, none⟩ = some (.int .i64 p2) := by rw [HW.out, World.cell?_alloc_at _ _ _ _ rfl]; rfl
      have NW := Lib.hid (HNET.out.below hbW hhi)
      have hsW' : w.heap.size + 1 ≤ W.heap.size := by have := hbx.lt; omega
      have r0 := ext_cell W (a := ⟨w.heap.size, 0, none⟩) (by show w.heap.size < W.heap.size; omega) hbxW.cells.1
      have r1 := ext_cell W (a := ⟨w.heap.size, 1, none⟩) (by show w.heap.size < W.heap.size; omega) hbxW.cells.2.1
      have r2 := ext_cell W (a := ⟨w.heap.size, 2, none⟩) (by show w.heap.size < W.heap.size; omega) hbxW.cells.2.2
      have r3 := ext_cell W (a := ⟨wr.heap.size, 0, none⟩) (by show wr.heap.size < W.heap.size; omega) o0
      have r4 := ext_cell W (a := ⟨wr.heap.size, 1, none⟩) (by show wr.heap.size < W.heap.size; omega) o1
      have HSW := Lib.hid hsW
      clear hsW o0 o1
      by_cases k1 : N.port p1 p2 = true
      case neg =>
        have k1' : N.port p1 p2 = false := by simpa using k1
        have K1 := Lib.hid k1'
        clear k1 k1'
        go_wp2
        rw [← HW.out]
        refine wp_region_ext (by kernel_rfl) (by kernel_rfl) ?_
        repeat (go_big_quiet_step ((go_at_call 49; exact ext_call (hasPort_is _ N _ _ false K1.out lo hi _ (NW.out.below (ext_below _ _) (by omega)) (Nat.le_trans (by omega) (ext_size _ _))))))
        refine wpQuiet_nil ?_
        intro _ hw'
        obtain ⟨px, hw''⟩ := hw'
        subst hw''
        go_wp2
        go_ret
        exact ⟨ret_bool (good_row hlt (row_end hml (by unfold NetD.endOk; rw [HP.out]; dsimp only; rw [K1.out]; rfl))).symm, hbW.trans ((ext_below _ _).mono (by omega))⟩
      have K1 := Lib.hid k1
      unfold NetD.port at k1
      rw [Bool.and_eq_true] at k1
      obtain ⟨k1a, k1b⟩ := k1
      obtain ⟨y1, y2⟩ := inB_le k1a
      obtain ⟨t, rfl⟩ : ∃ t : Nat, p1 = t := ⟨p1.toNat, by omega⟩
      rw [Int.toNat_natCast] at k1b
      obtain ⟨z1, z2⟩ := inB_le k1b
      obtain ⟨r, rfl⟩ : ∃ r : Nat, p2 = r := ⟨p2.toNat, by omega⟩
      have htl : t < N.ends.length := by omega
      obtain ⟨u5, hu5, hR5⟩ := HCS.out t htl
      obtain ⟨A5, c5, rfl, hf1, hf2, hcell5⟩ := hR5.form
      unfold maxLen at hf2
      have hrl : r < (nthL N.ends t).length := by omega
      have hti : (t : Int) < N.ends.length := by omega
      have hri : (r : Int) < (nthL N.ends t).length := by omega
      obtain ⟨b6, off6, rfl, hb7, hb8, hcs6⟩ := hcell5 (by omega)
      obtain ⟨f1, f2⟩ := hcs6 r hrl
      have q5 := ext_cell W (a := ⟨b, off + t, none⟩) (by show b < W.heap.size; omega) ((hbW.cell (p := ⟨b, off + t, none⟩) (by show b < _; omega)).trans hu5)
      have d1 := ext_cell W (a := ⟨b6, off6 + r * 2, none⟩) (by show b6 < W.heap.size; omega) ((hbW.cell (p := ⟨b6, off6 + r * 2, none⟩) (by show b6 < _; omega)).trans f1)
      have d2 := ext_cell W (a := ⟨b6, off6 + r * 2 + 1, none⟩) (by show b6 < W.heap.size; omega) ((hbW.cell (p := ⟨b6, off6 + r * 2 + 1, none⟩) (by show b6 < _; omega)).trans f2)
      obtain ⟨s1, s2, HQ⟩ : ∃ s1 s2, Hid (nthE (nthL N.ends t) r = (s1, s2)) := ⟨_, _, Lib.hid rfl⟩
      rw [HQ.out] at d1 d2
      dsimp only at d1 d2
      clear f1 f2 hcs6 hcell5 hu5 hR5 k1a k1b
      by_cases k3 : ((s1, s2) : Int × Int) = ((k : Int), (m : Int))
      case neg =>
        have k3' : ∀ w, (binOp .neq 66 (.agg #[.int .i64 s1, .int .i64 s2]) (.agg #[.int .i64 k, .int .i64 m])).run Tryz.prog w = .ok (.bool true) w := fun w => by
          rw [neq_end, show (!(s1 == (k : Int) && s2 == (m : Int))) = true by
            rw [Bool.not_eq_true', Bool.and_eq_false_iff]; simp only [Prod.mk.injEq] at k3; by_cases q : s1 = (k : Int)
            · right; simpa using fun e => k3 ⟨q, e⟩
            · left; simpa using q]
        have K3 := Lib.hid k3
        clear k3
        go_wp2
        rw [← HW.out]
        refine wp_region_ext (by kernel_rfl) (by kernel_rfl) ?_
        repeat (go_big_quiet_step ((go_at_call 49; exact ext_call (hasPort_is _ N _ _ true K1.out lo hi _ (NW.out.below (ext_below _ _) (by omega)) (Nat.le_trans (by omega) (ext_size _ _))))))
        refine wpQuiet_nil ?_
        intro _ hw'
        obtain ⟨px, hw''⟩ := hw'
        subst hw''
        go_wp2
        go_ret
        exact ⟨ret_bool (good_row hlt (row_end hml (by unfold NetD.endOk; rw [HP.out]; dsimp only; rw [Int.toNat_natCast, Int.toNat_natCast, HQ.out, decide_eq_false K3.out, Bool.and_false]))).symm, hbW.trans ((ext_below _ _).mono (by omega))⟩
      have k3' : ∀ w, (binOp .neq 66 (.agg #[.int .i64 s1, .int .i64 s2]) (.agg #[.int .i64 k, .int .i64 m])).run Tryz.prog w = .ok (.bool false) w := fun w => by
        simp only [Prod.mk.injEq] at k3
        rw [neq_end, k3.1, k3.2]; simp
      have K3 := Lib.hid k3
      clear k3
      go_wp2
      rw [← HW.out]
      refine wp_region_ext (by kernel_rfl) (by kernel_rfl) ?_
      repeat (go_big_quiet_step ((go_at_call 49; exact ext_call (hasPort_is _ N _ _ true K1.out lo hi _ (NW.out.below (ext_below _ _) (by omega)) (Nat.le_trans (by omega) (ext_size _ _))))))
      refine wpQuiet_nil ?_
      intro _ hw'
      obtain ⟨px, hw''⟩ := hw'
      subst hw''
      go_wp2
      go_roundw
      case rel =>
        refine ⟨m + 1, by omega, by go_num, Lib.hid fun j hj => ?_, hbxW.below (ext_below _ _) (by omega), hbW.trans ((ext_below _ _).mono (by omega))⟩
        by_cases e : j = m
        · subst e
          unfold NetD.endOk
          rw [HP.out]
          dsimp only
          rw [Int.toNat_natCast, Int.toNat_natCast, HQ.out, decide_eq_true K3.out, Bool.and_true]
          exact K1.out
        · exact HV.out j (by omega)
      case measure => simp [intOf]; omega

end Go.Proofs.YtmdlginjblnfoaaGreat

/- Contracts: numbers for all ports; orientations (program and reference). -/
namespace Go.Proofs.YtmdlginjblnfoaaGreat
open Go.ChangeShapes Go.WideShapes Go.ChangeAt Go.RowKit
set_option linter.unusedVariables false

def rowIn (o : List (List Int)) (lo hi : Int) (v : Nat) : Bool := (nthL o v).all fun x => inB x lo hi
end Go.Proofs.YtmdlginjblnfoaaGreat

/- Contracts: the walk from a node and its code (reference). -/
namespace Go.Proofs.YtmdlginjblnfoaaGreat
open Go.ChangeShapes Go.WideShapes Go.ChangeAt Go.RowKit
set_option linter.unusedVariables false

theorem OwnI.one (w : World) (base : Nat) (e : TypeId) (x : Int) {g : Nat} (hg : w.heap.size = g) (hb : base ≤ g) : OwnI (w.alloc (.cells #[.int .i64 x] e)) base e (.slice (some ⟨g, 0, none⟩) 1 1) [x] := by
  subst hg
  refine ⟨by simp, .inr ⟨w.heap.size, 1, #[.int .i64 x], by simp, hb, heap_alloc_new w _, Nat.le_refl _, by unfold maxLen; omega, rfl, rfl⟩⟩

set_option maxHeartbeats 4000000 in
set_option maxRecDepth 100000 in
theorem isWalk_any (v1 : Value) (N : NetD) (lo1 hi1 : Nat) (v : Nat) (w : World) (h1 : Net w lo1 hi1 v1 N) (hh1 : hi1 ≤ w.heap.size) (hg : N.good = true) (hv : v < N.ends.length) :
    Calls Tryz.prog 38 #[v1, .int .i64 (v : Nat)] w fun e w' => ∃ r, e = .returned (r) ∧ IntS w' w.heap.size w'.heap.size r (walkN N v) ∧ Below w.heap.size w w' := by
  obtain ⟨n1, n40⟩ := good_n hg
  have HG := Lib.hid hg; clear hg
  have HNO := Lib.hid (good_nodes HG.out)
  have F1 := Lib.hid h1
  obtain ⟨A1, c1, A1', c1', A1'', c1'', rfl, hc1, hd1, _⟩ := h1.parts
  obtain ⟨b1, o1, _, _, rfl, _⟩ := Net.rowAt F1.out (u := 0) (by omega)
  clear h1
  obtain ⟨WA, HWA⟩ : ∃ W, Hid (W = (w.alloc (.cells #[.slice (some ⟨b1, o1, none⟩) N.ends.length c1, .slice A1' N.ids.length c1', .slice A1'' N.inputs.length c1''] 32))) := ⟨_, Lib.hid rfl⟩
  have hbA : Below w.heap.size w WA := by rw [HWA.out]; exact ((Below.refl _ _).alloc (Nat.le_refl _) _)
  have hsA : w.heap.size + 1 ≤ WA.heap.size := by rw [HWA.out]; simp; try omega
  have bx1 : BoxN WA (w.heap.size) #[.slice (some ⟨b1, o1, none⟩) N.ends.length c1, .slice A1' N.ids.length c1', .slice A1'' N.inputs.length c1''] 32 := by rw [HWA.out]; exact (BoxN.new' _ _ _ (by simp))
  have G1 := Lib.hid (Net.below F1.out hbA hh1); clear F1
  go_enter Tryz.func38, Tryz.ntmps38
  go_upto_region 1 with (fail)
  rw [← HWA.out]; clear HWA
  go_upto_region 2 with (fail)
  refine nameC ?_
  intro W1 HW1
  have hg1 : WA.grownBy W1 none := by rw [HW1.out]; exact grown_alloc _ _
  have hs1 := hg1.size
  have HF1 := Lib.hid ((Turned.refl WA.heap.size WA.heap.size WA).still hg1)
  have HO := Lib.hid (show OwnI W1 WA.heap.size 3 (.slice (some ⟨WA.heap.size, 0, none⟩) 1 1) [(v : Int)] by rw [HW1.out]; exact OwnI.one _ _ _ _ rfl (Nat.le_refl _))
  clear HW1
  go_wp2_with fail
  go_loopw [6, 5] (fun kv ov wr => ∃ (k : Nat) (out : List Int), kv = .int .i64 k ∧ Hid (OwnI wr WA.heap.size 3 ov out) ∧ Hid (WkTop N v k out) ∧ WA.heap.size ≤ wr.heap.size ∧ Hid (Turned WA.heap.size WA.heap.size WA wr)) (fun kv ov _ => N.ends.length + 1 - (intOf kv).toNat)
  case atStart => exact ⟨0, [(v : Int)], rfl, HO, Lib.hid (WkTop.start hv), by omega, HF1⟩
  case round =>
    clear HF1
    obtain ⟨k, out, rfl, HO, HI, hz, HF2⟩ := hrel
    have hs2 := HF2.out.size
    have hkl := HI.out.le
    have hll := HI.out.ok.len
    obtain ⟨Az, cz, rfl, hcz, hdz⟩ := HO.out.ints.dims
    by_cases hlt : k < out.length
    case neg =>
      obtain rfl : k = out.length := by omega
      have HST := Lib.hid HI.out.stop
      go_wp2_with fail
      go_ret
      refine ⟨_, rfl, ?_, (HF2.out.below_of hbA (by omega) (by omega))⟩
      rw [HST.out]
      exact HO.out.ints.mono (by omega) (Nat.le_refl _)
    obtain ⟨u, eu, hu⟩ := HI.out.ok.at_ hlt
    have HEU := Lib.hid eu
    obtain ⟨bz, oz, rfl, _, hbz, _, _⟩ := IntS.opened HO.out.ints (j := k) hlt
    clear eu
    have hki : (k : Int) < out.length := by omega
    have hd6 := good_deg HG.out hu
    have hlv := HO.out.lt
    have hlv2 := Lib.hid (fun g hg => (HO.out.lt g hg).2)
    go_wp2_with fail
    refine wp_region_U (fun w' => w'.cell? ⟨w.heap.size, 0, none⟩ = some (.slice (some ⟨b1, o1, none⟩) N.ends.length c1) ∧ w'.cell? ⟨w.heap.size, 1, none⟩ = some (.slice A1' N.ids.length c1') ∧ w'.cell? ⟨w.heap.size, 2, none⟩ = some (.slice A1'' N.inputs.length c1'') ∧ w'.cell? ⟨bz, oz + k, none⟩ = some (.int .i64 u)) [] (by kernel_rfl) ?_
    refine nameU ?_
    intro W3 HW3
    have hg3 : wr.grownBy W3 none := by rw [HW3.out]; exact grown_drew _
    clear HW3
    have hs3 := hg3.size
    have HF3 := Lib.hid (HF2.out.still hg3); clear HF2
    have O3 := Lib.hid (OwnI.still HO.out hg3); clear HO
    have hS4 : W3.cell? ⟨w.heap.size, 0, none⟩ = some (.slice (some ⟨b1, o1, none⟩) N.ends.length c1) ∧ W3.cell? ⟨w.heap.size, 1, none⟩ = some (.slice A1' N.ids.length c1') ∧ W3.cell? ⟨w.heap.size, 2, none⟩ = some (.slice A1'' N.inputs.length c1'') ∧ W3.cell? ⟨bz, oz + k, none⟩ = some (.int .i64 u) := ⟨(HF3.out.boxN bx1 (by omega)).cell 0 (by simp), (HF3.out.boxN bx1 (by omega)).cell 1 (by simp), (HF3.out.boxN bx1 (by omega)).cell 2 (by simp), (by have := (IntS.at_ O3.out.ints (j := k) hlt).1; rw [HEU.out] at this; exact this)⟩
    refine anyU_take (i := 0) (v := .agg #[.slice (some ⟨b1, o1, none⟩) N.ends.length c1, .slice A1' N.ids.length c1', .slice A1'' N.inputs.length c1'']) rfl (by kernel_rfl) (by kernel_rfl) (by kernel_rfl) (fun _ _ _ h => h) ⟨by rfl, fun w' hS' => (by obtain ⟨s1, s2, s3, s4⟩ := hS'; go_simp)⟩ hS4 ?_
    simp only [List.getElem_toArray, List.getElem_cons_zero, Act.put, List.setIfInBounds_toArray, List.set_cons_zero, List.set_cons_succ]
    refine anyU_take (i := 1) (v := .slice (some ⟨bz, oz, none⟩) out.length cz) rfl (by kernel_rfl) (by kernel_rfl) (by kernel_rfl) (fun _ _ _ h => h) ⟨by rfl, fun w' hS' => (by obtain ⟨s1, s2, s3, s4⟩ := hS'; go_simp)⟩ hS4 ?_
    simp only [List.getElem_toArray, List.getElem_cons_succ, List.getElem_cons_zero, Act.put, List.setIfInBounds_toArray, List.set_cons_zero, List.set_cons_succ]
    refine anyU_take (i := 2) (v := .int .i64 k) rfl (by kernel_rfl) (by kernel_rfl) (by kernel_rfl) (fun _ _ _ h => h) ⟨by rfl, fun w' hS' => (by obtain ⟨s1, s2, s3, s4⟩ := hS'; go_simp)⟩ hS4 ?_
    simp only [List.getElem_toArray, List.getElem_cons_succ, List.getElem_cons_zero, Act.put, List.setIfInBounds_toArray, List.set_cons_zero, List.set_cons_succ]
    refine anyU_take (i := 3) (v := .pointer (some ⟨bz, oz + k, none⟩)) rfl (by kernel_rfl) (by kernel_rfl) (by kernel_rfl) (fun _ _ _ h => h) ⟨by rfl, fun w' hS' => (by obtain ⟨s1, s2, s3, s4⟩ := hS'; simp [go_sem, hki])⟩ hS4 ?_
    simp only [List.getElem_toArray, List.getElem_cons_succ, List.getElem_cons_zero, Act.put, List.setIfInBounds_toArray, List.set_cons_zero, List.set_cons_succ]
    refine anyU_take (i := 4) (v := .int .i64 u) rfl (by kernel_rfl) (by kernel_rfl) (by kernel_rfl) (fun _ _ _ h => h) ⟨by rfl, fun w' hS' => (by obtain ⟨s1, s2, s3, s4⟩ := hS'; go_simp)⟩ hS4 ?_
    simp only [List.getElem_toArray, List.getElem_cons_succ, List.getElem_cons_zero, Act.put, List.setIfInBounds_toArray, List.set_cons_zero, List.set_cons_succ]
    refine anyU_take (i := 7) (v := .int .i64 0) rfl (by kernel_rfl) (by kernel_rfl) (by kernel_rfl) (fun _ _ _ h => h) ⟨by rfl, fun w' hS' => (by obtain ⟨s1, s2, s3, s4⟩ := hS'; go_simp)⟩ hS4 ?_
    simp only [List.getElem_toArray, List.getElem_cons_succ, List.getElem_cons_zero, Act.put, List.setIfInBounds_toArray, List.set_cons_zero, List.set_cons_succ]
    refine anyU_ready (rs := [5]) (by kernel_rfl) (by simp) ?_
    refine ReadyU.cons (i := 5) rfl (fun K hK => ?_) ReadyU.nil
    simp only [List.getElem_toArray, List.getElem_cons_succ, List.getElem_cons_zero]
    refine ite_is (by rfl) ?_
    simp [go_sem]
    refine (neNear_any _ N u lo1 hi1 _ (Net.turned G1.out HF3.out (by omega) (by omega)) (by omega) hu (by omega)).mono ?_
    rintro e W5 ⟨r, rfl, hr, hb5⟩
    have hg5 := grown_below hb5; clear hb5
    have hs5 := hg5.size
    have HF5 := Lib.hid (HF3.out.still hg5); clear HF3
    have O5 := Lib.hid (OwnI.still O3.out hg5); clear O3
    have R5 := Lib.hid hr; clear hr
    have hS6 : W5.cell? ⟨w.heap.size, 0, none⟩ = some (.slice (some ⟨b1, o1, none⟩) N.ends.length c1) ∧ W5.cell? ⟨w.heap.size, 1, none⟩ = some (.slice A1' N.ids.length c1') ∧ W5.cell? ⟨w.heap.size, 2, none⟩ = some (.slice A1'' N.inputs.length c1'') ∧ W5.cell? ⟨bz, oz + k, none⟩ = some (.int .i64 u) := ⟨(HF5.out.boxN bx1 (by omega)).cell 0 (by simp), (HF5.out.boxN bx1 (by omega)).cell 1 (by simp), (HF5.out.boxN bx1 (by omega)).cell 2 (by simp), (by have := (IntS.at_ O5.out.ints (j := k) hlt).1; rw [HEU.out] at this; exact this)⟩
    refine hK.out _ _ ⟨fun _ => hS6, ?_⟩
    clear hK K hS4
    try simp only [List.getElem_toArray, List.getElem_cons_succ, List.getElem_cons_zero, Act.put, List.setIfInBounds_toArray, List.set_cons_zero, List.set_cons_succ]
    obtain ⟨Ar, cr, rfl, hcr, hdr⟩ := R5.out.dims
    rw [nbs_length] at hcr
    try rw [nbs_length]
    refine anyU_ready (rs := [6]) (by kernel_rfl) (by simp) ?_
    refine ReadyU.cons (i := 6) rfl (fun K hK => ?_) ReadyU.nil
    simp only [List.getElem_toArray, List.getElem_cons_succ, List.getElem_cons_zero]
    refine ite_is (by rfl) ?_
    simp [go_sem]
    refine hK.out _ _ ⟨fun _ => hS6, ?_⟩
    clear hK K
    try simp only [List.getElem_toArray, List.getElem_cons_succ, List.getElem_cons_zero, Act.put, List.setIfInBounds_toArray, List.set_cons_zero, List.set_cons_succ]
    clear hS6
    refine anyU_done (by kernel_rfl) ?_ _
    try simp only [nbs_length]
    go_wp2_with fail
    go_loopw [24, 5] (fun iv ov wr => ∃ (m : Nat) (out' : List Int), m ≤ (nthL N.ends u).length ∧ iv = .int .i64 m ∧ Hid (OwnI wr WA.heap.size 3 ov out') ∧ Hid (out' = wkRow N out u m) ∧ Hid (IntS wr W3.heap.size W5.heap.size (.slice Ar (nthL N.ends u).length cr) (nbs N u)) ∧ Hid (∀ g, ov.ownBlock = some g → g < W3.heap.size ∨ W5.heap.size ≤ g) ∧ W5.heap.size ≤ wr.heap.size ∧ Hid (Turned WA.heap.size WA.heap.size WA wr)) (fun iv ov _ => (nthL N.ends u).length - (intOf iv).toNat)
    case atStart => exact ⟨0, out, Nat.zero_le _, rfl, O5, Lib.hid rfl, Lib.hid (by have := R5.out; first | exact this | (rw [nbs_length] at this; exact this)), Lib.hid fun g hg => .inl (by have := hlv2.out g hg; omega), Nat.le_refl _, HF5⟩
    case round =>
      clear HF5
      obtain ⟨m, out', hm, rfl, HO, HM, HRF, HAP, hz2, HF7⟩ := hrel
      have hs7 := HF7.out.size
      have hnl := nbs_length N u
      have HOK := Lib.hid (show WkOk N out' by rw [HM.out]; exact HI.out.ok.row HNO.out hu m (by rw [hnl]; exact hm))
      have hlo := HOK.out.len
      have hlv3 := HO.out.lt
      have HNL := Lib.hid hnl; clear hnl
      by_cases hml : m < (nthL N.ends u).length
      case neg =>
        obtain rfl : m = (nthL N.ends u).length := by omega
        have HIN := Lib.hid (show WkTop N v (k + 1) out' by rw [HM.out, ← HNL.out]; exact HI.out.next HNO.out hlt HEU.out hu)
        go_wp2_with fail
        go_roundw
        case rel => exact ⟨k + 1, out', by go_num, HO, HIN, by omega, HF7⟩
        case measure => simp [intOf]; omega
      obtain ⟨t, rr, et, ht, hr2, _⟩ := good_end HG.out hu hml
      obtain ⟨b3, o3, rfl, _, _, x3, _⟩ := IntS.opened HRF.out (j := m) (by rw [HNL.out]; exact hml)
      rw [nth_nbs N u hml, et] at x3
      dsimp only at x3
      have HSC := Lib.hid (show wkRow N out u (m + 1) = wkStep out' (t : Int) by rw [wkRow_succ _ _ _ (by rw [HNL.out]; exact hml), ← HM.out, nth_nbs N u hml, et])
      clear et
      obtain ⟨Ay, cy, rfl, hcy, hdy⟩ := HO.out.ints.dims
      cases hmm : decide ((t : Int) ∈ out') with
      | true =>
        have HMM := Lib.hid hmm; clear hmm
        have HSE := Lib.hid (show out' = wkRow N out u (m + 1) by rw [HSC.out]; unfold wkStep; rw [if_pos (of_decide_eq_true HMM.out)])
        go_wp2_with (go_at_call 37; refine (l1Has_any _ out' _ _ _ _ HO.out.ints).mono ?_; rintro e w' ⟨rfl, rfl⟩; rw [HMM.out])
        go_roundw
        case rel => exact ⟨m + 1, out', by omega, by go_num, HO, HSE, HRF, HAP, by omega, HF7⟩
        case measure => simp [intOf]; omega
      | false =>
        have HMM := Lib.hid hmm; clear hmm
        have HSE := Lib.hid (show out' ++ [(t : Int)] = wkRow N out u (m + 1) by rw [HSC.out]; unfold wkStep; rw [if_neg (of_decide_eq_false HMM.out)])
        go_wp2_with (first | (go_at_call 37; refine (l1Has_any _ out' _ _ _ _ HO.out.ints).mono ?_; rintro e w' ⟨rfl, rfl⟩; rw [HMM.out]) | (at_builtin; refine append_int (s := .tmp 32) Tryz.underlying23 Tryz.info3 (by decide) wr rfl _ rfl HO.out t _ rfl (by simp [Act.eval, go_sem]) (by omega) (by omega) ?_; intro v' w' ho' hg' hat'))
        go_roundw
        case rel =>
          have hgs := hg'.size
          refine ⟨m + 1, _, by omega, by go_num, Lib.hid ho', HSE, Lib.hid (IntS.far HRF.out hg' (by omega) HAP.out), Lib.hid fun g hg => ?_, by omega, Lib.hid (HF7.out.grown hg' fun g hg => .inr (hlv3 g hg).1)⟩
          rcases hat' with e | e
          · rw [e] at hg; exact HAP.out g hg
          · rw [e] at hg; injection hg with hg; right; omega
        case measure => simp [intOf]; omega

end Go.Proofs.YtmdlginjblnfoaaGreat
