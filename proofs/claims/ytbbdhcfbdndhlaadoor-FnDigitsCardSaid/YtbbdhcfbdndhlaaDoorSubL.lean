/-
  Contracts: the laws' helpers: sizes of two codes, a number of bytes, equal lists.
-/
import Derived.Test.YtbbdhcfbdndhlaaDoorCurs2
import Derived.Test.YtbbdhcfbdndhlaaDoorOwnSS
namespace Go.Proofs.YtbbdhcfbdndhlaaDoor
open Go.ChangeShapes Go.WideShapes Go.ChangeAt Go.RowKit
set_option linter.unusedVariables false

set_option maxHeartbeats 1000000 in
set_option maxRecDepth 100000 in
theorem big_any (v1 : Value) (a : List Int) (lo1 hi1 : Nat) (v2 : Value) (b : List Int) (lo2 hi2 : Nat) (w : World) (h1 : ByS w lo1 hi1 v1 a) (hh1 : hi1 ≤ w.heap.size) (h2 : ByS w lo2 hi2 v2 b) (hh2 : hi2 ≤ w.heap.size)  :
    Calls Tryd.prog 4 #[v1, v2] w fun e w' => e = .returned (.bool (!decide (a.length + b.length ≤ 1048576))) ∧ w = w' := by
  have Fa := Lib.hid h1; have Fb := Lib.hid h2
  have F1 := Lib.hid h1
  obtain ⟨A1, c1, rfl, hc1, hd1⟩ := h1.dims
  clear h1
  have F2 := Lib.hid h2
  obtain ⟨A2, c2, rfl, hc2, hd2⟩ := h2.dims
  clear h2
  go_enter Tryd.func4, Tryd.ntmps4
  obtain ⟨m, HM⟩ : ∃ m, Hid (a.length = m) := ⟨_, Lib.hid rfl⟩
  obtain ⟨n, HN⟩ : ∃ m, Hid (b.length = m) := ⟨_, Lib.hid rfl⟩
  rw [HM.out] at hc1
  rw [HN.out] at hc2
  rw [HM.out, HN.out]
  have hw : IntKind.i64.wrap (1048576 - (m : Int)) = 1048576 - (m : Int) := IntWalk.i64_in _ (by omega)
  by_cases h1 : (1048576 : Int) < m
  case pos =>
    have HR := Lib.hid (show (!decide (m + n ≤ 1048576)) = true by simp; omega)
    go_wp2_with fail
    go_ret
    exact ⟨ret_bool HR.out.symm, rfl⟩
  by_cases h2 : 1048576 - (m : Int) < n
  case pos =>
    have HR := Lib.hid (show (!decide (m + n ≤ 1048576)) = true by simp; omega)
    go_wp2_with fail
    go_ret
    exact ⟨ret_bool (by rw [HR.out]), rfl⟩
  have HR := Lib.hid (show (!decide (m + n ≤ 1048576)) = false by simp; omega)
  go_wp2_with fail
  go_ret
  exact ⟨ret_bool (by rw [HR.out]), rfl⟩

set_option maxHeartbeats 1000000 in
set_option maxRecDepth 100000 in
theorem sameInts_same (v1 : Value) (a : List Int) (lo1 hi1 : Nat) (v2 : Value) (b : List Int) (lo2 hi2 : Nat) (w : World) (h1 : IntS w lo1 hi1 v1 a) (hh1 : hi1 ≤ w.heap.size) (h2 : IntS w lo2 hi2 v2 b) (hh2 : hi2 ≤ w.heap.size) (hab : a = b) :
    Calls Tryd.prog 8 #[v1, v2] w fun e w' => e = .returned (.bool true) ∧ Below w.heap.size w w' := by
  have HAB := Lib.hid hab; clear hab
  have F1 := Lib.hid h1
  obtain ⟨A1, c1, rfl, hc1, hd1⟩ := h1.dims
  clear h1
  have F2 := Lib.hid h2
  obtain ⟨A2, c2, rfl, hc2, hd2⟩ := h2.dims
  clear h2
  go_enter Tryd.func8, Tryd.ntmps8
  obtain ⟨n, HN⟩ : ∃ m, Hid (b.length = m) := ⟨_, Lib.hid rfl⟩
  have HNA := Lib.hid (show a.length = n by rw [HAB.out]; exact HN.out)
  rw [HNA.out] at hc1
  rw [HN.out] at hc2
  rw [HNA.out, HN.out]
  go_wp2_with fail
  go_loopw [13] (fun iv wr => ∃ (i : Nat), i ≤ n ∧ iv = .int .i64 i ∧ Hid (Turned w.heap.size w.heap.size w wr)) (fun iv _ => n - (intOf iv).toNat)
  case atStart => exact ⟨0, Nat.zero_le _, rfl, Lib.hid (Turned.refl w.heap.size w.heap.size w)⟩
  case round =>
    obtain ⟨i, hi, rfl, HF1⟩ := hrel
    have hs1 := HF1.out.size
    by_cases hlt : i < n
    case neg =>
      obtain rfl : i = n := by omega
      go_wp2_with fail
      go_ret
      exact ⟨rfl, (HF1.out.below_of (Below.refl _ _) (by omega) (by omega))⟩
    have hii : (i : Int) < n := by omega
    have hA := Lib.hid (IntS.turned F1.out HF1.out (by omega) (by omega))
    have hB := Lib.hid (IntS.turned F2.out HF1.out (by omega) (by omega))
    obtain ⟨b1, o1, rfl, _, _, xa, _⟩ := IntS.opened hA.out (j := i) (by rw [HNA.out]; exact hlt)
    obtain ⟨b2, o2, rfl, _, _, xb, _⟩ := IntS.opened hB.out (j := i) (by rw [HN.out]; exact hlt)
    rw [HAB.out] at xa
    obtain ⟨y, HY⟩ : ∃ y, Hid (nth b i = y) := ⟨_, Lib.hid rfl⟩
    rw [HY.out] at xa xb
    have hyy : (y != y) = false := by simp
    go_wp2_with fail
    go_quiet (fail)
    go_wp2_with fail
    go_roundw
    case rel => exact ⟨i + 1, by omega, by go_num, Lib.hid (HF1.out.still (grown_drewN _ _))⟩
    case measure => simp [intOf]; omega

end Go.Proofs.YtbbdhcfbdndhlaaDoor
