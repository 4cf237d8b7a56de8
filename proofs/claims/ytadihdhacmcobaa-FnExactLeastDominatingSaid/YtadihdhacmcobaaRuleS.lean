/-
  Contracts of the reference's ruFar, ruApart, ruCovers, IsRuling.
-/
import Derived.Test.YtadihdhacmcobaaRuleP
namespace Go.Proofs.Ytadihdhacmcobaa
open Go.ChangeShapes Go.WideShapes Go.ChangeAt Go.RowKit
set_option linter.unusedVariables false

theorem farStep_le {ds : List Int} {out x : Int} {n : Int} (h : out ≤ n) (hd : nth ds x.toNat ≤ n) : farStep ds out x ≤ n := by unfold farStep; split <;> omega

set_option maxHeartbeats 4000000 in
set_option maxRecDepth 100000 in
theorem ruFar_any (v1 : Value) (N : NetD) (lo1 hi1 : Nat) (v2 : Value) (zs : List Int) (lo2 hi2 : Nat) (x : Nat) (w : World) (h1 : Net w lo1 hi1 v1 N) (hh1 : hi1 ≤ w.heap.size) (h2 : IntS w lo2 hi2 v2 zs) (hh2 : hi2 ≤ w.heap.size) (hg : N.good = true) (hx : x < N.ends.length) (hz2 : zs.length ≤ 1048576) (hm : ∀ k, k < zs.length → ∃ t : Nat, nth zs k = t ∧ t < N.ends.length) :
    Calls Try.prog 64 #[v1, v2, .int .i64 x] w fun e w' => e = .returned (.int .i64 (farOf (dist N x) zs)) ∧ Below w.heap.size w w' := by
  have HN := Lib.hid h1
  obtain ⟨A, c, A2, c2, A3, c3, rfl, hc1, hc2, _⟩ := h1.parts
  obtain ⟨B, d, rfl, hd1, hd2, hcell⟩ := h2.form
  unfold maxLen at hd2
  have HC := Lib.hid hcell
  have HM := Lib.hid hm
  have HG := Lib.hid hg
  obtain ⟨n1, n40⟩ := good_n hg
  clear h1 h2 hcell hm hg
  have b0 := Box3.new w 31 (.slice A N.ends.length c) (.slice A2 N.ids.length c2) (.slice A3 N.inputs.length c3)
  have hb0 : Below w.heap.size w (w.alloc (.cells #[.slice A N.ends.length c, .slice A2 N.ids.length c2, .slice A3 N.inputs.length c3] 31)) := below_a1 _ _
  go_enter Try.func64, Try.ntmps64
  go_wp2_with fail
  refine (meFrom_any _ N x lo1 hi1 _ (HN.out.below hb0 hh1) (by simp; omega) hx (by omega) (good_nodes HG.out) (good_degs HG.out)).mono ?_
  rintro e w2 ⟨r, rfl, hr, hb2⟩
  have hbw := hb0.trans (hb2.mono (by simp))
  obtain ⟨R, rc, rfl, hrc1, hrc2, hrcell⟩ := hr.form
  rw [dist_len (good_nodes HG.out) hx] at hrc1 hrcell ⊢
  obtain ⟨bR, oR, rfl, hbR1, hbR2, hcR⟩ := hrcell (by omega)
  have HCR := Lib.hid hcR
  unfold maxLen at hrc2
  clear hr hrcell hcR hb0 hb2 b0
  go_wp2_with fail
  go_loop [16, 7] (fun i ov => ∃ (m : Nat) (o : Int), m ≤ zs.length ∧ i = .int .i64 m ∧ ov = .int .i64 o ∧ -1 ≤ o ∧ o ≤ N.ends.length ∧ Hid (o = (zs.take m).foldl (farStep (dist N x)) (-1))) (fun i _ => zs.length - (intOf i).toNat)
  case atStart => exact ⟨0, -1, Nat.zero_le _, rfl, rfl, by omega, by omega, Lib.hid (by simp)⟩
  case round =>
    obtain ⟨m, o, hm, rfl, rfl, ho1, ho2, HF⟩ := hrel
    by_cases hml : m < zs.length
    case neg =>
      obtain rfl : m = zs.length := by omega
      go_wp2_with fail
      go_ret
      exact ⟨ret_int (by rw [HF.out, List.take_length]; rfl), hbw⟩
    obtain ⟨bz, oz, rfl, hbz1, hbz2, hcz⟩ := HC.out (by omega)
    obtain ⟨t, ht, htl⟩ := HM.out m hml
    have z1 := (hbw.cell (p := ⟨bz, oz + m, none⟩) (by show bz < _; omega)).trans (hcz m hml).1
    rw [ht] at z1
    have r1 := (HCR.out t htl).1
    have hyn := (dist_low (good_nodes HG.out) hx htl)
    obtain ⟨y, HY⟩ : ∃ y, Hid (nth (dist N x) t = y) := ⟨_, Lib.hid rfl⟩
    rw [HY.out] at r1 hyn
    have hti : (t : Int) < N.ends.length := by omega
    have HT := Lib.hid ht
    clear ht hcz
    have step : ∀ o', farStep (dist N x) o t = o' → Hid (o' = (zs.take (m + 1)).foldl (farStep (dist N x)) (-1)) := fun o' e => Lib.hid (by rw [foldl_take_succ _ _ _ hml, ← HF.out, HT.out, e])
    have ST := Lib.hid step
    clear step
    by_cases hy : 0 ≤ y
    case neg =>
      have g1 : decide (0 ≤ y) = false := decide_eq_false hy
      go_wp2_with fail
      go_round
      case rel => exact ⟨m + 1, o, by omega, by go_num, rfl, ho1, ho2, ST.out o (by unfold farStep; rw [Int.toNat_natCast, HY.out, if_neg (by omega)])⟩
      case measure => simp [intOf]; omega
    by_cases hbn : o < 0
    · go_wp2_with fail
      go_round
      case rel => exact ⟨m + 1, y, by omega, by go_num, rfl, by omega, by omega, ST.out y (by unfold farStep; rw [Int.toNat_natCast, HY.out, if_pos (by omega)])⟩
      case measure => simp [intOf]; omega
    by_cases hyz : y < o
    · go_wp2_with fail
      go_round
      case rel => exact ⟨m + 1, y, by omega, by go_num, rfl, by omega, by omega, ST.out y (by unfold farStep; rw [Int.toNat_natCast, HY.out, if_pos (by omega)])⟩
      case measure => simp [intOf]; omega
    · go_wp2_with fail
      go_round
      case rel => exact ⟨m + 1, o, by omega, by go_num, rfl, by omega, by omega, ST.out o (by unfold farStep; rw [Int.toNat_natCast, HY.out, if_neg (by omega)])⟩
      case measure => simp [intOf]; omega

set_option maxHeartbeats 4000000 in
set_option maxRecDepth 100000 in
theorem ruCovers_any (v1 : Value) (N : NetD) (lo1 hi1 : Nat) (v2 : Value) (zs : List Int) (lo2 hi2 : Nat) (β : Int) (w : World) (h1 : Net w lo1 hi1 v1 N) (hh1 : hi1 ≤ w.heap.size) (h2 : IntS w lo2 hi2 v2 zs) (hh2 : hi2 ≤ w.heap.size) (hg : N.good = true) (hz2 : zs.length ≤ 1048576) (hm : ∀ k, k < zs.length → ∃ t : Nat, nth zs k = t ∧ t < N.ends.length) :
    Calls Try.prog 37 #[v1, v2, .int .i64 β] w fun e w' => e = .returned (.bool (coversB N zs β)) ∧ Below w.heap.size w w' := by
  have HN := Lib.hid h1
  have HP := Lib.hid h2
  obtain ⟨A, c, A2, c2, A3, c3, rfl, hc1, hc2, _⟩ := h1.parts
  obtain ⟨B, d, rfl⟩ := h2.shape
  have HM := Lib.hid hm
  have HG := Lib.hid hg
  obtain ⟨n1, n40⟩ := good_n hg
  clear h1 h2 hm hg
  have b0 := Box3.new w 31 (.slice A N.ends.length c) (.slice A2 N.ids.length c2) (.slice A3 N.inputs.length c3)
  have hb0 : Below w.heap.size w (w.alloc (.cells #[.slice A N.ends.length c, .slice A2 N.ids.length c2, .slice A3 N.inputs.length c3] 31)) := below_a1 _ _
  go_enter Try.func37, Try.ntmps37
  go_wp2_with fail
  go_loopw [11] (fun i wr => ∃ k : Nat, k ≤ N.ends.length ∧ i = .int .i64 k ∧ Hid (∀ j, j < k → inB (farOf (dist N j) zs) 0 β = true) ∧ Box3 wr w.heap.size 31 (.slice A N.ends.length c) (.slice A2 N.ids.length c2) (.slice A3 N.inputs.length c3) ∧ Below w.heap.size w wr) (fun i _ => N.ends.length - (intOf i).toNat)
  case atStart => exact ⟨0, Nat.zero_le _, rfl, Lib.hid fun j hj => absurd hj (by omega), b0, hb0⟩
  case round =>
    clear b0 hb0
    obtain ⟨k, hk, rfl, HU, hbx, hb⟩ := hrel
    have hs := hb.size
    by_cases hlt : k < N.ends.length
    case neg =>
      obtain rfl : k = N.ends.length := by omega
      go_wp2_with fail
      go_ret
      exact ⟨ret_bool (rangeAll_true HU.out).symm, hb⟩
    obtain ⟨q0, q1, q2⟩ := hbx.cells
    go_wp2_with fail
    refine (ruFar_any _ N lo1 hi1 _ zs lo2 hi2 k _ (HN.out.below hb hh1) (by omega) (HP.out.below hb hh2) (by omega) HG.out hlt hz2 HM.out).mono ?_
    rintro e w2 ⟨rfl, hb2⟩
    have hbx2 := hbx.below hb2 hbx.lt
    have hbw := hb.trans (hb2.mono hs)
    clear q0 q1 q2
    by_cases hq : inB (farOf (dist N k) zs) 0 β = true
    · go_wp2_with (go_at_call 53; refine (l1In_any _ _ _ _).mono ?_; rintro e w' ⟨rfl, rfl⟩)
      go_roundw
      case rel =>
        refine ⟨k + 1, by omega, by go_num, Lib.hid fun j hj => ?_, hbx2, hbw⟩
        by_cases e : j = k
        · rw [e]; exact hq
        · exact HU.out j (by omega)
      case measure => simp [intOf]; omega
    · have hq' : inB (farOf (dist N k) zs) 0 β = false := by simpa using hq
      clear hq
      go_wp2_with (go_at_call 53; refine (l1In_any _ _ _ _).mono ?_; rintro e w' ⟨rfl, rfl⟩)
      go_ret
      exact ⟨ret_bool (rangeAll_false hlt hq').symm, hbw⟩

end Go.Proofs.Ytadihdhacmcobaa
