/-
  Contracts: subsets by rank, the program's and the reference's.
-/
import Derived.Test.YtlignkgfclenkaaBin
namespace Go.Proofs.Ytlignkgfclenkaa
open Go.ChangeShapes Go.WideShapes Go.ChangeAt Go.RowKit
set_option linter.unusedVariables false

theorem binomial_int (a b : Int) (m j : Nat) (w : World) (ha : a = m) (hb : b = j) (hm : m ≤ 60) (hj : j ≤ 60) : Calls Try.prog 65 #[.int .i64 a, .int .i64 b] w fun e w' => e = .returned (.int .i64 (ch m j : Nat)) ∧ Below w.heap.size w w' := by
  subst ha; subst hb; exact binomial_any m j w hm hj
theorem nuChoose_int (a b : Int) (m j : Nat) (w : World) (ha : a = m) (hb : b = j) (hm : m ≤ 60) (hj : j ≤ 60) : Calls Try.prog 63 #[.int .i64 a, .int .i64 b] w fun e w' => e = .returned (.int .i64 (ch m j : Nat)) ∧ Below w.heap.size w w' := by
  subst ha; subst hb; exact nuChoose_any m j w hm hj

set_option maxHeartbeats 4000000 in
set_option maxRecDepth 100000 in
theorem subsetAt_any (n : Nat) (k : Nat) (r : Nat) (w : World)  (hn : n ≤ 60) (hr : r < ch n k) :
    Calls Try.prog 61 #[.int .i64 (n : Nat), .int .i64 (k : Nat), .int .i64 (r : Nat)] w fun e w' => ∃ q, e = .returned (q) ∧ IntS w' w.heap.size w'.heap.size q (subN n 0 k r) ∧ Below w.heap.size w w' := by
  have hkn := ch_le_of_pos (Nat.lt_of_le_of_lt (Nat.zero_le _) hr)
  have hr60 : r ≤ 1152921504606846976 := by have := ch_small (k := k) hn; omega
  have HR := Lib.hid hr; clear hr
  go_enter Try.func61, Try.ntmps61
  go_wp2_with fail
  go_loopw [2, 7, 8] (fun rv ov xv wr => ∃ (x s : Nat) (out : List Int), x ≤ n ∧ xv = .int .i64 x ∧ rv = .int .i64 s ∧ Hid (OwnI wr w.heap.size 3 ov out) ∧ out.length ≤ k ∧ Hid (s < ch (n - x) (k - out.length)) ∧ Hid (subN n 0 k r = out ++ subN (n - x) x (k - out.length) s) ∧ s ≤ 1152921504606846976 ∧ Hid (Below w.heap.size w wr)) (fun rv ov xv _ => n + 1 - (intOf xv).toNat)
  case atStart => exact ⟨0, r, [], Nat.zero_le _, rfl, rfl, Lib.hid (OwnI.nil _ _ _), Nat.zero_le _, Lib.hid HR.out, Lib.hid rfl, hr60, Lib.hid (Below.refl _ _)⟩
  case round =>
    obtain ⟨x, s, out, hx, rfl, rfl, HO, hol, HS, HE, hs60, HB⟩ := hrel
    obtain ⟨Ao, co, rfl, hco, hdo⟩ := HO.out.ints.dims
    by_cases hlt : out.length < k
    case neg =>
      have hek : out.length = k := by omega
      have HEQ := Lib.hid (show subN n 0 k r = out by rw [HE.out, hek, Nat.sub_self, subN_zero, List.append_nil])
      have HO2 := Lib.hid HO.out.ints
      have hdk : decide ((out.length : Int) < (k : Int)) = false := decide_eq_false (by omega)
      clear hek
      go_wp2_with fail
      go_ret
      refine ⟨_, rfl, ?_, HB.out⟩
      rw [HEQ.out]
      exact HO2.out
    have hdk : decide ((out.length : Int) < (k : Int)) = true := decide_eq_true (by omega)
    have hle := ch_le_of_pos (Nat.lt_of_le_of_lt (Nat.zero_le _) HS.out)
    obtain ⟨m, HM⟩ : ∃ m : Nat, Hid (n - x = m + 1) := ⟨n - x - 1, Lib.hid (by omega)⟩
    obtain ⟨j, HJ⟩ : ∃ j : Nat, Hid (k - out.length = j + 1) := ⟨k - out.length - 1, Lib.hid (by omega)⟩
    have hm60 : m ≤ 60 := by have := HM.out; omega
    have hj60 : j ≤ 60 := by have := HJ.out; omega
    have hx1 : x + 1 ≤ n := by have := HM.out; omega
    have hnx : n - (x + 1) = m := by have := HM.out; omega
    have hS2 := HS.out; have hE2 := HE.out
    rw [HM.out, HJ.out] at hS2 hE2
    rw [ch_succ] at hS2
    obtain ⟨c, HC⟩ : ∃ c, Hid (ch m j = c) := ⟨_, Lib.hid rfl⟩
    have hlv := HO.out.lt
    have hwz := HB.out.size
    by_cases hsc : s < c
    case pos =>
      have HSN := Lib.hid (show s < ch m j by rw [HC.out]; exact hsc)
      have HEN := Lib.hid (show subN n 0 k r = (out ++ [(x : Int)]) ++ subN m (x + 1) j s by rw [hE2, subN_yes HSN.out, List.append_assoc]; rfl)
      have hdc : decide ((s : Int) < (c : Int)) = true := decide_eq_true (by omega)
      have hkl : k - (out ++ [(x : Int)]).length = j := by rw [List.length_append]; have := HJ.out; simp; omega
      have hll : (out ++ [(x : Int)]).length ≤ k := by rw [List.length_append]; simp; omega
      have HKL := Lib.hid hkl; have HLL := Lib.hid hll; have HNX := Lib.hid hnx
      clear hkl hll hnx hS2 hE2 hle
      go_wp2_with (first | (go_at_call 65; refine (binomial_int _ _ m j _ (by have := HM.out; first | omega | (rw [IntWalk.i64_in _ (by omega)]; omega)) (by have := HJ.out; first | omega | (rw [IntWalk.i64_in _ (by omega)]; omega)) hm60 hj60).mono ?_; rintro e w1 ⟨rfl, hb1⟩; rw [HC.out]; have hg1 := grown_below hb1; have hs1 := hg1.size; have HO1 := Lib.hid (OwnI.still HO.out hg1); have HB1 := Lib.hid (HB.out.trans (hb1.mono HB.out.size)); have hlv1 := HO1.out.lt; clear hb1 hg1) | (at_builtin; refine append_int (s := .tmp 29) Try.underlying53 Try.info3 (by decide) w1 rfl _ rfl HO1.out x _ rfl (by simp [Act.eval, go_sem]) (by omega) (by omega) ?_; intro v' w' ho' hg' hat'))
      go_roundw
      case rel =>
        have hB0 := HB.out.size
        exact ⟨x + 1, s, _, hx1, by go_num, rfl, Lib.hid ho', HLL.out, Lib.hid (by rw [HKL.out, HNX.out]; exact HSN.out), Lib.hid (by rw [HKL.out, HNX.out]; exact HEN.out), hs60, Lib.hid (HB1.out.grown hg' HB1.out.size fun g hg => by have := hlv1 g hg; omega)⟩
      case measure => simp [intOf]; omega
    have HSN := Lib.hid (show s - c < ch m (j + 1) by rw [HC.out] at hS2; omega)
    have HEN := Lib.hid (show subN n 0 k r = out ++ subN m (x + 1) (j + 1) (s - c) by rw [hE2, subN_no (by rw [HC.out]; exact hsc), HC.out])
    have hdc : decide ((s : Int) < (c : Int)) = false := decide_eq_false (by omega)
    obtain ⟨s2, HS2⟩ : ∃ s2 : Nat, Hid (s - c = s2) := ⟨_, Lib.hid rfl⟩
    rw [HS2.out] at HSN HEN
    have hw3 : IntKind.i64.wrap ((s : Int) - (c : Int)) = (s2 : Int) := by rw [IntWalk.i64_in _ (by omega)]; have := HS2.out; omega
    have hs2 : s2 ≤ 1152921504606846976 := by have := HS2.out; omega
    have HNX := Lib.hid hnx
    clear hnx hS2 hE2 hle
    go_wp2_with (go_at_call 65; refine (binomial_int _ _ m j _ (by have := HM.out; first | omega | (rw [IntWalk.i64_in _ (by omega)]; omega)) (by have := HJ.out; first | omega | (rw [IntWalk.i64_in _ (by omega)]; omega)) hm60 hj60).mono ?_; rintro e w1 ⟨rfl, hb1⟩; rw [HC.out]; have hg1 := grown_below hb1; have hs1 := hg1.size; have HO1 := Lib.hid (OwnI.still HO.out hg1); have HB1 := Lib.hid (HB.out.trans (hb1.mono HB.out.size)); clear hb1 hg1)
    go_roundw
    case rel => exact ⟨x + 1, s2, out, hx1, by go_num, by (have := HS2.out; first | go_num | (congr 1; omega) | (simp; omega)), HO1, hol, Lib.hid (by rw [HJ.out, HNX.out]; exact HSN.out), Lib.hid (by rw [HJ.out, HNX.out]; exact HEN.out), hs2, HB1⟩
    case measure => simp [intOf]; omega

set_option maxHeartbeats 4000000 in
set_option maxRecDepth 100000 in
theorem nuAt_any (n : Nat) (k : Nat) (r : Nat) (w : World)  (hn : n ≤ 60) (hr : r < ch n k) :
    Calls Try.prog 64 #[.int .i64 (n : Nat), .int .i64 (k : Nat), .int .i64 (r : Nat)] w fun e w' => ∃ q, e = .returned (q) ∧ IntS w' w.heap.size w'.heap.size q (subN n 0 k r) ∧ Below w.heap.size w w' := by
  have hkn := ch_le_of_pos (Nat.lt_of_le_of_lt (Nat.zero_le _) hr)
  have hr60 : r ≤ 1152921504606846976 := by have := ch_small (k := k) hn; omega
  have HR := Lib.hid hr; clear hr
  go_enter Try.func64, Try.ntmps64
  go_wp2_with fail
  go_loopw [2, 7, 8] (fun rv ov xv wr => ∃ (x s : Nat) (out : List Int), x ≤ n ∧ xv = .int .i64 x ∧ rv = .int .i64 s ∧ Hid (OwnI wr w.heap.size 3 ov out) ∧ out.length ≤ k ∧ Hid (s < ch (n - x) (k - out.length)) ∧ Hid (subN n 0 k r = out ++ subN (n - x) x (k - out.length) s) ∧ s ≤ 1152921504606846976 ∧ Hid (Below w.heap.size w wr)) (fun rv ov xv _ => n + 1 - (intOf xv).toNat)
  case atStart => exact ⟨0, r, [], Nat.zero_le _, rfl, rfl, Lib.hid (OwnI.nil _ _ _), Nat.zero_le _, Lib.hid HR.out, Lib.hid rfl, hr60, Lib.hid (Below.refl _ _)⟩
  case round =>
    obtain ⟨x, s, out, hx, rfl, rfl, HO, hol, HS, HE, hs60, HB⟩ := hrel
    obtain ⟨Ao, co, rfl, hco, hdo⟩ := HO.out.ints.dims
    by_cases hlt : out.length < k
    case neg =>
      have hek : out.length = k := by omega
      have HEQ := Lib.hid (show subN n 0 k r = out by rw [HE.out, hek, Nat.sub_self, subN_zero, List.append_nil])
      have HO2 := Lib.hid HO.out.ints
      have hdk : decide ((out.length : Int) < (k : Int)) = false := decide_eq_false (by omega)
      clear hek
      go_wp2_with fail
      go_ret
      refine ⟨_, rfl, ?_, HB.out⟩
      rw [HEQ.out]
      exact HO2.out
    have hdk : decide ((out.length : Int) < (k : Int)) = true := decide_eq_true (by omega)
    have hle := ch_le_of_pos (Nat.lt_of_le_of_lt (Nat.zero_le _) HS.out)
    obtain ⟨m, HM⟩ : ∃ m : Nat, Hid (n - x = m + 1) := ⟨n - x - 1, Lib.hid (by omega)⟩
    obtain ⟨j, HJ⟩ : ∃ j : Nat, Hid (k - out.length = j + 1) := ⟨k - out.length - 1, Lib.hid (by omega)⟩
    have hm60 : m ≤ 60 := by have := HM.out; omega
    have hj60 : j ≤ 60 := by have := HJ.out; omega
    have hx1 : x + 1 ≤ n := by have := HM.out; omega
    have hnx : n - (x + 1) = m := by have := HM.out; omega
    have hS2 := HS.out; have hE2 := HE.out
    rw [HM.out, HJ.out] at hS2 hE2
    rw [ch_succ] at hS2
    obtain ⟨c, HC⟩ : ∃ c, Hid (ch m j = c) := ⟨_, Lib.hid rfl⟩
    have hlv := HO.out.lt
    have hwz := HB.out.size
    by_cases hsc : s < c
    case pos =>
      have HSN := Lib.hid (show s < ch m j by rw [HC.out]; exact hsc)
      have HEN := Lib.hid (show subN n 0 k r = (out ++ [(x : Int)]) ++ subN m (x + 1) j s by rw [hE2, subN_yes HSN.out, List.append_assoc]; rfl)
      have hdc : decide ((s : Int) < (c : Int)) = true := decide_eq_true (by omega)
      have hkl : k - (out ++ [(x : Int)]).length = j := by rw [List.length_append]; have := HJ.out; simp; omega
      have hll : (out ++ [(x : Int)]).length ≤ k := by rw [List.length_append]; simp; omega
      have HKL := Lib.hid hkl; have HLL := Lib.hid hll; have HNX := Lib.hid hnx
      clear hkl hll hnx hS2 hE2 hle
      go_wp2_with (first | (go_at_call 63; refine (nuChoose_int _ _ m j _ (by have := HM.out; first | omega | (rw [IntWalk.i64_in _ (by omega)]; omega)) (by have := HJ.out; first | omega | (rw [IntWalk.i64_in _ (by omega)]; omega)) hm60 hj60).mono ?_; rintro e w1 ⟨rfl, hb1⟩; rw [HC.out]; have hg1 := grown_below hb1; have hs1 := hg1.size; have HO1 := Lib.hid (OwnI.still HO.out hg1); have HB1 := Lib.hid (HB.out.trans (hb1.mono HB.out.size)); have hlv1 := HO1.out.lt; clear hb1 hg1) | (at_builtin; refine append_int (s := .tmp 29) Try.underlying53 Try.info3 (by decide) w1 rfl _ rfl HO1.out x _ rfl (by simp [Act.eval, go_sem]) (by omega) (by omega) ?_; intro v' w' ho' hg' hat'))
      go_roundw
      case rel =>
        have hB0 := HB.out.size
        exact ⟨x + 1, s, _, hx1, by go_num, rfl, Lib.hid ho', HLL.out, Lib.hid (by rw [HKL.out, HNX.out]; exact HSN.out), Lib.hid (by rw [HKL.out, HNX.out]; exact HEN.out), hs60, Lib.hid (HB1.out.grown hg' HB1.out.size fun g hg => by have := hlv1 g hg; omega)⟩
      case measure => simp [intOf]; omega
    have HSN := Lib.hid (show s - c < ch m (j + 1) by rw [HC.out] at hS2; omega)
    have HEN := Lib.hid (show subN n 0 k r = out ++ subN m (x + 1) (j + 1) (s - c) by rw [hE2, subN_no (by rw [HC.out]; exact hsc), HC.out])
    have hdc : decide ((s : Int) < (c : Int)) = false := decide_eq_false (by omega)
    obtain ⟨s2, HS2⟩ : ∃ s2 : Nat, Hid (s - c = s2) := ⟨_, Lib.hid rfl⟩
    rw [HS2.out] at HSN HEN
    have hw3 : IntKind.i64.wrap ((s : Int) - (c : Int)) = (s2 : Int) := by rw [IntWalk.i64_in _ (by omega)]; have := HS2.out; omega
    have hs2 : s2 ≤ 1152921504606846976 := by have := HS2.out; omega
    have HNX := Lib.hid hnx
    clear hnx hS2 hE2 hle
    go_wp2_with (go_at_call 63; refine (nuChoose_int _ _ m j _ (by have := HM.out; first | omega | (rw [IntWalk.i64_in _ (by omega)]; omega)) (by have := HJ.out; first | omega | (rw [IntWalk.i64_in _ (by omega)]; omega)) hm60 hj60).mono ?_; rintro e w1 ⟨rfl, hb1⟩; rw [HC.out]; have hg1 := grown_below hb1; have hs1 := hg1.size; have HO1 := Lib.hid (OwnI.still HO.out hg1); have HB1 := Lib.hid (HB.out.trans (hb1.mono HB.out.size)); clear hb1 hg1)
    go_roundw
    case rel => exact ⟨x + 1, s2, out, hx1, by go_num, by (have := HS2.out; first | go_num | (congr 1; omega) | (simp; omega)), HO1, hol, Lib.hid (by rw [HJ.out, HNX.out]; exact HSN.out), Lib.hid (by rw [HJ.out, HNX.out]; exact HEN.out), hs2, HB1⟩
    case measure => simp [intOf]; omega

end Go.Proofs.Ytlignkgfclenkaa
