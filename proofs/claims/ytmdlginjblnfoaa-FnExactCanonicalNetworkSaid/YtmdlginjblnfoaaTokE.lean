/-
  Contracts: equality of two slices of numbers, of two slices of such slices.
-/
import Derived.Test.YtmdlginjblnfoaaBase
import Derived.Test.YtmdlginjblnfoaaSS
import Derived.Test.YtmdlginjblnfoaaExt
import Derived.BigQuiet
import Derived.Deep.QuietTactic
namespace Go.Proofs.Ytmdlginjblnfoaa
open Go.ChangeShapes Go.WideShapes Go.ChangeAt Go.RowKit
set_option linter.unusedVariables false

set_option maxHeartbeats 1000000 in
set_option maxRecDepth 100000 in
theorem l1Same_any (v1 v2 : Value) (a b : List Int) (lo1 hi1 lo2 hi2 : Nat) (w : World) (h1 : IntS w lo1 hi1 v1 a) (h2 : IntS w lo2 hi2 v2 b) (hh1 : hi1 ≤ w.heap.size) (hh2 : hi2 ≤ w.heap.size) :
    Calls Try.prog 51 #[v1, v2] w fun e w' => e = .returned (.bool (decide (a = b))) ∧ Below w.heap.size w w' := by
  obtain ⟨A, c, rfl, hc1, hc2, hcell⟩ := h1.form
  obtain ⟨A2, c2, rfl, hd1, hd2, hcell2⟩ := h2.form
  have HC := Lib.hid hcell; have HC2 := Lib.hid hcell2
  clear hcell hcell2 h1 h2
  unfold maxLen at hc2 hd2
  obtain ⟨m, HM⟩ : ∃ m, Hid (a.length = m) := ⟨_, Lib.hid rfl⟩
  obtain ⟨m2, HM2⟩ : ∃ m, Hid (b.length = m) := ⟨_, Lib.hid rfl⟩
  rw [HM.out] at hc1 ⊢
  rw [HM2.out] at hd1 ⊢
  by_cases hl : m = m2
  case neg =>
    have hl' : ((m : Int) != (m2 : Int)) = true := by simp; omega
    have HN := Lib.hid (show decide (a = b) = false from decide_eq_false (fun e => hl (by rw [← HM.out, ← HM2.out, e])))
    clear hl
    go_enter Try.func51, Try.ntmps51
    go_wp2_with fail
    go_ret
    exact ⟨ret_bool HN.out.symm, Below.refl _ _⟩
  have hl' : ((m : Int) != (m2 : Int)) = false := by simp; omega
  have HL := Lib.hid hl; clear hl
  go_enter Try.func51, Try.ntmps51
  go_wp2_with fail
  go_loopw [13] (fun i wr => ∃ k : Nat, k ≤ m ∧ i = .int .i64 k ∧ Hid (Below w.heap.size w wr) ∧ Hid (∀ j, j < k → nth a j = nth b j)) (fun i _ => m - (intOf i).toNat)
  case atStart => exact ⟨0, Nat.zero_le _, rfl, Lib.hid (Below.refl _ _), Lib.hid fun j hj => absurd hj (by omega)⟩
  case round =>
    obtain ⟨k, hk, rfl, HB, HU⟩ := hrel
    by_cases hlt : k < m
    case neg =>
      obtain rfl : k = m := by omega
      go_wp2_with fail
      go_ret
      exact ⟨ret_bool (decide_eq_true (ext_nth (by rw [HM.out, HM2.out, HL.out]) (by rw [HM.out]; exact HU.out))).symm, HB.out⟩
    obtain ⟨x, o, hA, _, hx2, hcs⟩ := HC.out (by rw [HM.out]; omega)
    obtain ⟨y, o2, hA2, _, hy2, hcs2⟩ := HC2.out (by rw [HM2.out]; have := HL.out; omega)
    subst hA hA2
    have hk2 : k < m2 := by have := HL.out; omega
    have p1 := (HB.out.cell (p := ⟨x, o + k, none⟩) (by show x < _; omega)).trans (hcs k (by rw [HM.out]; exact hlt)).1
    have p2 := (HB.out.cell (p := ⟨y, o2 + k, none⟩) (by show y < _; omega)).trans (hcs2 k (by rw [HM2.out]; exact hk2)).1
    clear hcs hcs2
    obtain ⟨z1, HZ1⟩ : ∃ z, Hid (nth a k = z) := ⟨_, Lib.hid rfl⟩
    obtain ⟨z2, HZ2⟩ : ∃ z, Hid (nth b k = z) := ⟨_, Lib.hid rfl⟩
    rw [HZ1.out] at p1
    rw [HZ2.out] at p2
    have hkm : (k : Int) < (m : Int) := by omega
    have hkm2 : (k : Int) < (m2 : Int) := by omega
    by_cases hz : z1 = z2
    · have hz' : (z1 != z2) = false := by simp [hz]
      have HZ := Lib.hid hz; clear hz
      go_wp2_with fail
      go_quiet (fail)
      go_wp2_with fail
      go_roundw
      case rel =>
        refine ⟨k + 1, by omega, by go_num, Lib.hid (below_drewN HB.out _), Lib.hid fun j hj => ?_⟩
        by_cases e : j = k
        · rw [e, HZ1.out, HZ2.out, HZ.out]
        · exact HU.out j (by omega)
      case measure => simp [intOf]; omega
    · have hz' : (z1 != z2) = true := by simp [hz]
      have HN := Lib.hid (show decide (a = b) = false from decide_eq_false (fun e => hz (by rw [← HZ1.out, ← HZ2.out, e])))
      clear hz
      go_wp2_with fail
      go_quiet (fail)
      go_wp2_with fail
      go_ret
      exact ⟨ret_bool HN.out.symm, below_drewN HB.out _⟩

end Go.Proofs.Ytmdlginjblnfoaa
