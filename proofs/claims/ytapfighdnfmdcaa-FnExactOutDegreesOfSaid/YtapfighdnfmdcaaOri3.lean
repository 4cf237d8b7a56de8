/-
  Contracts: the numbers of edges that leave (reference), sinks (program and reference).
-/
import Derived.Test.YtapfighdnfmdcaaOri2
namespace Go.Proofs.Ytapfighdnfmdcaa
open Go.ChangeShapes Go.WideShapes Go.ChangeAt Go.RowKit
set_option linter.unusedVariables false

def sumI (zs : List Int) : Int := zs.foldl (· + ·) 0
theorem sumI_take {zs : List Int} {k : Nat} (h : k < zs.length) : sumI (zs.take (k + 1)) = sumI (zs.take k) + nth zs k := by
  unfold sumI; rw [List.take_succ_eq_append_getElem h, List.foldl_append, nth_eq h]; rfl
theorem sum_ones {zs : List Int} (h : ∀ k, k < zs.length → 0 ≤ nth zs k ∧ nth zs k ≤ 1) : ∀ k, k ≤ zs.length → sumI (zs.take k) = onesI (zs.take k)
  | 0, _ => rfl
  | k + 1, hk => by
    rw [sumI_take (by omega), sum_ones h k (by omega), onesI_take (by omega)]
    have := h k (by omega)
    by_cases e : nth zs k = 1
    · rw [if_pos e, e]; omega
    · rw [if_neg e]; omega
theorem outDeg_length (o : List (List Int)) : (outDeg o).length = o.length := by simp [outDeg]
theorem nth_outDeg {o : List (List Int)} {v : Nat} (hv : v < o.length) : nth (outDeg o) v = onesI (nthL o v) := by simp [nth, outDeg, nthL, hv]

set_option maxHeartbeats 4000000 in
set_option maxRecDepth 100000 in
theorem orOut_any (v1 : Value) (o : List (List Int)) (lo1 hi1 : Nat) (w : World) (h1 : IntSS w lo1 hi1 v1 o) (hh1 : hi1 ≤ w.heap.size) (hr : rowsIn o 0 1 = true) (ho : o.length ≤ 1048576) (hrl : ∀ v, v < o.length → (nthL o v).length ≤ 1048576) :
    Calls Try.prog 84 #[v1] w fun e w' => ∃ r, e = .returned (r) ∧ IntS w' w.heap.size w'.heap.size r (outDeg o) ∧ Below w.heap.size w w' := by
  have HR := Lib.hid hr; clear hr
  have HRL := Lib.hid hrl; clear hrl
  have F1 := Lib.hid h1
  obtain ⟨A1, c1, rfl, hc1, hd1⟩ := h1.dims
  clear h1
  go_enter Try.func84, Try.ntmps84
  go_wp2_with fail
  go_loopw [11, 3] (fun i ov wr => ∃ (k : Nat) (zs : List Int), k ≤ o.length ∧ i = .int .i64 k ∧ Hid (OwnI wr w.heap.size 3 ov zs) ∧ Hid (zs = (outDeg o).take k) ∧ zs.length ≤ k ∧ Hid (Turned w.heap.size w.heap.size w wr)) (fun i ov _ => o.length - (intOf i).toNat)
  case atStart => exact ⟨0, [], Nat.zero_le _, rfl, Lib.hid (OwnI.nil _ _ _), Lib.hid (by simp), Nat.zero_le _, Lib.hid (Turned.refl w.heap.size w.heap.size w)⟩
  case round =>
    obtain ⟨k, zs, hk, rfl, HO, HD, hl, HF1⟩ := hrel
    have hs1 := HF1.out.size
    by_cases hlt : k < o.length
    case neg =>
      obtain rfl : k = o.length := by omega
      go_wp2_with fail
      go_ret
      refine ⟨_, rfl, ?_, (HF1.out.below_of (Below.refl _ _) (by omega) (by omega))⟩
      have e : outDeg o = zs := by rw [HD.out, ← outDeg_length o, List.take_length]
      rw [e]
      exact HO.out.ints
    obtain ⟨bs, os, us, rfl, _, hbs, zs, hus⟩ := SS.opened F1.out hlt
    replace zs := (HF1.out.cell (by omega) (by omega)).trans zs
    obtain ⟨As, cs, rfl, hcs, hds⟩ := hus.dims
    have Us := Lib.hid hus; clear hus
    have hsl := HRL.out k hlt
    obtain ⟨wo, rfl⟩ : ∃ wo : World, wo = wr := ⟨_, rfl⟩
    go_wp2_with fail
    go_loop [17, 6] (fun i sv => ∃ (m : Nat) (s : Int), m ≤ (nthL o k).length ∧ i = .int .i64 m ∧ sv = .int .i64 s ∧ 0 ≤ s ∧ s ≤ m ∧ Hid (s = sumI ((nthL o k).take m))) (fun i sv => (nthL o k).length - (intOf i).toNat)
    case atStart => exact ⟨0, 0, Nat.zero_le _, rfl, rfl, Int.le_refl _, Int.le_refl _, Lib.hid rfl⟩
    case round =>
      obtain ⟨m, s, hm, rfl, rfl, hs0, hs1, HS⟩ := hrel
      by_cases hml : m < (nthL o k).length
      case neg =>
        obtain rfl : m = (nthL o k).length := by omega
        have hlv := HO.out.lt
        go_wp2_with (at_builtin; refine append_int (s := .tmp 25) Try.underlying23 Try.info3 (by decide) wo rfl _ rfl HO.out s _ rfl (by simp [Act.eval, go_sem]) (by omega) (by omega) ?_; intro v' w' ho' hg' hat')
        go_roundw
        case rel =>
          refine ⟨k + 1, _, by omega, by go_num, Lib.hid ho', Lib.hid ?_, by simp; omega, Lib.hid (HF1.out.grown hg' fun g hg => .inr (hlv g hg).1)⟩
          rw [List.take_succ_eq_append_getElem (by rw [outDeg_length]; exact hlt), ← nth_eq, nth_outDeg hlt, ← HD.out, HS.out, sum_ones (fun j hj => rows_val HR.out hlt hj) _ (Nat.le_refl _), List.take_length]
        case measure => simp [intOf]; omega
      obtain ⟨be, oe, rfl, _, hbe', xe, _⟩ := (IntS.turned Us.out HF1.out (by omega) (by omega)).opened hml
      obtain ⟨y1, y2⟩ := rows_val HR.out hlt hml
      obtain ⟨y, HY⟩ : ∃ y, Hid (nth (nthL o k) m = y) := ⟨_, Lib.hid rfl⟩
      rw [HY.out] at xe y1 y2
      go_wp2_with fail
      go_round
      case rel => exact ⟨m + 1, s + y, by omega, by go_num, rfl, by omega, by omega, Lib.hid (by rw [sumI_take hml, HS.out, HY.out])⟩
      case measure => simp [intOf]; omega

end Go.Proofs.Ytapfighdnfmdcaa
