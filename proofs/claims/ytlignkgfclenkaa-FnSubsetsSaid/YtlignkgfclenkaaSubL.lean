/-
  Contracts: the laws' helpers: sizes of two codes, a number of bytes, equal lists.
-/
import Derived.Test.YtlignkgfclenkaaCurs2
import Derived.Test.YtlignkgfclenkaaOwnSS
namespace Go.Proofs.Ytlignkgfclenkaa
open Go.ChangeShapes Go.WideShapes Go.ChangeAt Go.RowKit
set_option linter.unusedVariables false

set_option maxHeartbeats 1000000 in
set_option maxRecDepth 100000 in
theorem big_any (v1 : Value) (a : List Int) (lo1 hi1 : Nat) (v2 : Value) (b : List Int) (lo2 hi2 : Nat) (w : World) (h1 : ByS w lo1 hi1 v1 a) (hh1 : hi1 ≤ w.heap.size) (h2 : ByS w lo2 hi2 v2 b) (hh2 : hi2 ≤ w.heap.size)  :
    Calls Try.prog 22 #[v1, v2] w fun e w' => e = .returned (.bool (!decide (a.length + b.length ≤ 1048576))) ∧ w = w' := by
  have Fa := Lib.hid h1; have Fb := Lib.hid h2
  have F1 := Lib.hid h1
  obtain ⟨A1, c1, rfl, hc1, hd1⟩ := h1.dims
  clear h1
  have F2 := Lib.hid h2
  obtain ⟨A2, c2, rfl, hc2, hd2⟩ := h2.dims
  clear h2
  go_enter Try.func22, Try.ntmps22
  obtain ⟨m, HM⟩ : ∃ m, Hid (a.length = m) := ⟨_, Lib.hid rfl⟩
  obtain ⟨n, HN⟩ : ∃ m, Hid (b.length = m) := ⟨_, Lib.hid rfl⟩
  rw [HM.out] at hc1
  rw [HN.out] at hc2
  rw [HM.out, HN.out]
  have hw : IntKind.i64.wrap (1048576 - (m : Int)) = 1048576 - (m : Int) := IntWalk.i64_in _ (by omega)
  by_cases h1 : (1048576 : Int) < m
  case pos =>
    have HR := Lib.hid (show (!decide (m + n ≤ 1048576)) = true by simp; omega)
    go_wp2_with fail
    go_ret
    exact ⟨ret_bool HR.out.symm, rfl⟩
  by_cases h2 : 1048576 - (m : Int) < n
  case pos =>
    have HR := Lib.hid (show (!decide (m + n ≤ 1048576)) = true by simp; omega)
    go_wp2_with fail
    go_ret
    exact ⟨ret_bool (by rw [HR.out]), rfl⟩
  have HR := Lib.hid (show (!decide (m + n ≤ 1048576)) = false by simp; omega)
  go_wp2_with fail
  go_ret
  exact ⟨ret_bool (by rw [HR.out]), rfl⟩

set_option maxHeartbeats 1000000 in
set_option maxRecDepth 100000 in
theorem numberOf_any (v1 : Value) (b : List Int) (lo1 hi1 : Nat) (w : World) (h1 : ByS w lo1 hi1 v1 b) (hh1 : hi1 ≤ w.heap.size) (hb : Bytes b) (hl : b.length ≤ 1048576) :
    Calls Try.prog 28 #[v1] w fun e w' => ∃ x : Nat, e = .returned (.int .i64 x) ∧ x < 1000003 ∧ Below w.heap.size w w' := by
  have HBY := Lib.hid hb; clear hb
  have F1 := Lib.hid h1
  obtain ⟨A1, c1, rfl, hc1, hd1⟩ := h1.dims
  clear h1
  go_enter Try.func28, Try.ntmps28
  obtain ⟨n, HN⟩ : ∃ m, Hid (b.length = m) := ⟨_, Lib.hid rfl⟩
  rw [HN.out] at hc1 hl
  rw [HN.out]
  go_wp2_with fail
  go_loopw [8, 3] (fun iv sv wr => ∃ (i s : Nat), i ≤ n ∧ iv = .int .i64 i ∧ sv = .int .i64 s ∧ s < 1000003 ∧ Hid (Turned w.heap.size w.heap.size w wr)) (fun iv sv _ => n - (intOf iv).toNat)
  case atStart => exact ⟨0, 0, Nat.zero_le _, rfl, rfl, by omega, Lib.hid (Turned.refl w.heap.size w.heap.size w)⟩
  case round =>
    obtain ⟨i, s, hi, rfl, rfl, hs, HF1⟩ := hrel
    have hs1 := HF1.out.size
    by_cases hlt : i < n
    case neg =>
      obtain rfl : i = n := by omega
      go_wp2_with fail
      go_ret
      exact ⟨s, rfl, hs, (HF1.out.below_of (Below.refl _ _) (by omega) (by omega))⟩
    have hii : (i : Int) < n := by omega
    have hF := Lib.hid (ByS.turned F1.out HF1.out (by omega) (by omega))
    obtain ⟨b2, o2, rfl, _, _, xe⟩ := ByS.opened hF.out (j := i) (by rw [HN.out]; exact hlt)
    have hy := HBY.out _ (nth_mem (zs := b) (i := i) (by rw [HN.out]; exact hlt))
    obtain ⟨y, HY⟩ : ∃ y : Nat, Hid (nth b i = y) := ⟨(nth b i).toNat, Lib.hid (by omega)⟩
    rw [HY.out] at xe hy
    have hcw : IntKind.i64.wrap (y : Int) = (y : Int) := IntWalk.i64_in _ (by omega)
    have hw1 : IntKind.i64.wrap (31 * (s : Int)) = ((31 * s : Nat) : Int) := by rw [IntWalk.i64_in _ (by omega)]; omega
    obtain ⟨p, HP⟩ : ∃ q : Nat, Hid (31 * s = q) := ⟨_, Lib.hid rfl⟩
    rw [HP.out] at hw1
    have hp : p ≤ 31000093 := by have := HP.out; omega
    have hw2 : IntKind.i64.wrap ((p : Int) + (y : Int)) = ((p + y : Nat) : Int) := by rw [IntWalk.i64_in _ (by omega)]; omega
    obtain ⟨q, HQ⟩ : ∃ z : Nat, Hid (p + y = z) := ⟨_, Lib.hid rfl⟩
    rw [HQ.out] at hw2
    have htm : Int.tmod (q : Int) 1000003 = ((q % 1000003 : Nat) : Int) := tmodN q 1000003
    have hlt3 : q % 1000003 < 1000003 := Nat.mod_lt _ (by decide)
    obtain ⟨z, HZ⟩ : ∃ z : Nat, Hid (q % 1000003 = z) := ⟨_, Lib.hid rfl⟩
    rw [HZ.out] at htm hlt3
    go_wp2_with fail
    go_roundw
    case rel => exact ⟨i + 1, z, by omega, by go_num, by first | rfl | go_num | simp [htm], hlt3, HF1⟩
    case measure => simp [intOf]; omega

set_option maxHeartbeats 1000000 in
set_option maxRecDepth 100000 in
theorem sameInts_same (v1 : Value) (a : List Int) (lo1 hi1 : Nat) (v2 : Value) (b : List Int) (lo2 hi2 : Nat) (w : World) (h1 : IntS w lo1 hi1 v1 a) (hh1 : hi1 ≤ w.heap.size) (h2 : IntS w lo2 hi2 v2 b) (hh2 : hi2 ≤ w.heap.size) (hab : a = b) :
    Calls Try.prog 31 #[v1, v2] w fun e w' => e = .returned (.bool true) ∧ Below w.heap.size w w' := by
  have HAB := Lib.hid hab; clear hab
  have F1 := Lib.hid h1
  obtain ⟨A1, c1, rfl, hc1, hd1⟩ := h1.dims
  clear h1
  have F2 := Lib.hid h2
  obtain ⟨A2, c2, rfl, hc2, hd2⟩ := h2.dims
  clear h2
  go_enter Try.func31, Try.ntmps31
  obtain ⟨n, HN⟩ : ∃ m, Hid (b.length = m) := ⟨_, Lib.hid rfl⟩
  have HNA := Lib.hid (show a.length = n by rw [HAB.out]; exact HN.out)
  rw [HNA.out] at hc1
  rw [HN.out] at hc2
  rw [HNA.out, HN.out]
  go_wp2_with fail
  go_loopw [13] (fun iv wr => ∃ (i : Nat), i ≤ n ∧ iv = .int .i64 i ∧ Hid (Turned w.heap.size w.heap.size w wr)) (fun iv _ => n - (intOf iv).toNat)
  case atStart => exact ⟨0, Nat.zero_le _, rfl, Lib.hid (Turned.refl w.heap.size w.heap.size w)⟩
  case round =>
    obtain ⟨i, hi, rfl, HF1⟩ := hrel
    have hs1 := HF1.out.size
    by_cases hlt : i < n
    case neg =>
      obtain rfl : i = n := by omega
      go_wp2_with fail
      go_ret
      exact ⟨rfl, (HF1.out.below_of (Below.refl _ _) (by omega) (by omega))⟩
    have hii : (i : Int) < n := by omega
    have hA := Lib.hid (IntS.turned F1.out HF1.out (by omega) (by omega))
    have hB := Lib.hid (IntS.turned F2.out HF1.out (by omega) (by omega))
    obtain ⟨b1, o1, rfl, _, _, xa, _⟩ := IntS.opened hA.out (j := i) (by rw [HNA.out]; exact hlt)
    obtain ⟨b2, o2, rfl, _, _, xb, _⟩ := IntS.opened hB.out (j := i) (by rw [HN.out]; exact hlt)
    rw [HAB.out] at xa
    obtain ⟨y, HY⟩ : ∃ y, Hid (nth b i = y) := ⟨_, Lib.hid rfl⟩
    rw [HY.out] at xa xb
    have hyy : (y != y) = false := by simp
    go_wp2_with fail
    go_quiet (fail)
    go_wp2_with fail
    go_roundw
    case rel => exact ⟨i + 1, by omega, by go_num, Lib.hid (HF1.out.still (grown_drewN _ _))⟩
    case measure => simp [intOf]; omega

set_option maxHeartbeats 1000000 in
set_option maxRecDepth 100000 in
theorem sameLists_same (v1 : Value) (a : List (List Int)) (lo1 hi1 : Nat) (v2 : Value) (b : List (List Int)) (lo2 hi2 : Nat) (w : World) (h1 : IntSS w lo1 hi1 v1 a) (hh1 : hi1 ≤ w.heap.size) (h2 : IntSS w lo2 hi2 v2 b) (hh2 : hi2 ≤ w.heap.size) (hab : a = b) :
    Calls Try.prog 26 #[v1, v2] w fun e w' => e = .returned (.bool true) ∧ Below w.heap.size w w' := by
  have HAB := Lib.hid hab; clear hab
  have F1 := Lib.hid h1
  obtain ⟨A1, c1, rfl, hc1, hd1⟩ := h1.dims
  clear h1
  have F2 := Lib.hid h2
  obtain ⟨A2, c2, rfl, hc2, hd2⟩ := h2.dims
  clear h2
  go_enter Try.func26, Try.ntmps26
  obtain ⟨n, HN⟩ : ∃ m, Hid (b.length = m) := ⟨_, Lib.hid rfl⟩
  have HNA := Lib.hid (show a.length = n by rw [HAB.out]; exact HN.out)
  rw [HNA.out] at hc1
  rw [HN.out] at hc2
  rw [HNA.out, HN.out]
  go_wp2_with fail
  go_loopw [13] (fun iv wr => ∃ (i : Nat), i ≤ n ∧ iv = .int .i64 i ∧ Hid (Turned w.heap.size w.heap.size w wr)) (fun iv _ => n - (intOf iv).toNat)
  case atStart => exact ⟨0, Nat.zero_le _, rfl, Lib.hid (Turned.refl w.heap.size w.heap.size w)⟩
  case round =>
    obtain ⟨i, hi, rfl, HF1⟩ := hrel
    have hs1 := HF1.out.size
    by_cases hlt : i < n
    case neg =>
      obtain rfl : i = n := by omega
      go_wp2_with fail
      go_ret
      exact ⟨rfl, (HF1.out.below_of (Below.refl _ _) (by omega) (by omega))⟩
    have hii : (i : Int) < n := by omega
    obtain ⟨wq, rfl⟩ : ∃ wq : World, wq = wr := ⟨_, rfl⟩
    have hA := Lib.hid (ISS.turned F1.out HF1.out (by omega) (by omega))
    have hB := Lib.hid (ISS.turned F2.out HF1.out (by omega) (by omega))
    obtain ⟨b1, o1, ua, rfl, _, hb1, za, hua⟩ := SS.opened hA.out (j := i) (by rw [HNA.out]; exact hlt)
    obtain ⟨b2, o2, ub, rfl, _, hb2, zb, hub⟩ := SS.opened hB.out (j := i) (by rw [HN.out]; exact hlt)
    rw [HAB.out] at hua
    obtain ⟨A3, c3, rfl, hc3, hd3⟩ := hua.dims
    obtain ⟨A4, c4, rfl, hc4, hd4⟩ := hub.dims
    have HUA := Lib.hid hua
    have HUB := Lib.hid hub
    obtain ⟨ys, HYS⟩ : ∃ y, Hid (nthL b i = y) := ⟨_, Lib.hid rfl⟩
    rw [HYS.out] at za zb hc3 hc4 HUA HUB
    clear hua hub
    go_wp2_with fail
    refine wp_region_ext (by kernel_rfl) (by kernel_rfl) ?_
    have ea : ∀ p, (ext wq p).cell? ⟨b1, o1 + i, none⟩ = some (.slice A3 ys.length c3) := ext_cell wq (a := ⟨b1, o1 + i, none⟩) (by show b1 < _; omega) za
    have eb : ∀ p, (ext wq p).cell? ⟨b2, o2 + i, none⟩ = some (.slice A4 ys.length c4) := ext_cell wq (a := ⟨b2, o2 + i, none⟩) (by show b2 < _; omega) zb
    repeat (go_big_quiet_step ((go_at_call 31; exact ext_call (sameInts_same _ ys lo1 hi1 _ ys lo2 hi2 _ (HUA.out.below (ext_below _ _) (by omega)) (Nat.le_trans (by omega) (ext_size _ _)) (HUB.out.below (ext_below _ _) (by omega)) (Nat.le_trans (by omega) (ext_size _ _)) rfl))))
    refine wpQuiet_nil ?_
    rintro w1 ⟨p, rfl⟩
    clear ea eb
    go_wp2_with fail
    go_roundw
    case rel => exact ⟨i + 1, by omega, by go_num, Lib.hid (HF1.out.still (grown_below (ext_below _ _)))⟩
    case measure => simp [intOf]; omega

end Go.Proofs.Ytlignkgfclenkaa
