/-
  Contracts of the laws' helpers on slices of slices of integers.
-/
import Derived.Test.YtmfjdiccohgihaaRows
import Derived.Test.YtmfjdiccohgihaaInts
import Derived.Test.YtmfjdiccohgihaaSS
import Derived.Deep.RegionWith
import Derived.Test.YtmfjdiccohgihaaEnds
namespace Go.Proofs.Ytmfjdiccohgihaa
open Go.ChangeShapes Go.WideShapes Go.ChangeAt Go.RowKit
set_option linter.unusedVariables false

theorem Try.info23 : (Try.prog.info? 23).map (fun i => (i.zero, i.size, i.bytes)) = some (some (.slice none 0 0), 1, 24) := by kernel_rfl

set_option maxHeartbeats 1000000 in
theorem szIntSS_any (v : Value) (xss : List (List Int)) (left : Int) (lo hi : Nat) (w : World) (h : IntSS w lo hi v xss) (h0 : 0 ≤ left) (h1 : left ≤ 1048576) :
    Calls Try.prog 7 #[v, .int .i64 left] w fun e w' => e = .returned (.int .i64 (szr left (szSS xss))) ∧ w = w' := by
  obtain ⟨A, c, rfl, hc1, hc2, hcell⟩ := h.form
  unfold maxLen at hc2
  have hz : szSS xss = xss.length + sumL xss xss.length := rfl
  have HZ := Lib.hid hz
  clear hz
  by_cases hl : (xss.length : Int) ≤ left
  · have : ¬ left - xss.length < 0 := by omega
    go_enter Try.func7, Try.ntmps7
    go_wp2
    go_loop [5, 1] (fun i l => ∃ m : Nat, m ≤ xss.length ∧ i = .int .i64 m ∧ l = .int .i64 (left - xss.length - sumL xss m) ∧ 0 ≤ left - xss.length - sumL xss m) (fun i _ => xss.length - (intOf i).toNat)
    case atStart => exact ⟨0, Nat.zero_le _, rfl, by rw [sumL_zero]; simp, by rw [sumL_zero]; omega⟩
    case round =>
      obtain ⟨m, hm, rfl, rfl, hge⟩ := hrel
      by_cases hlt : m < xss.length
      · obtain ⟨b, off, rfl, hb1, hb2, hcs⟩ := hcell (by omega)
        obtain ⟨u, hcu, hR⟩ := hcs m hlt
        have HS := Lib.hid (sumL_succ xss m hlt)
        have hmo := sumL_mono xss (m + 1) (by omega)
        have HR := Lib.hid hR
        obtain ⟨A2, c2, rfl, hd1, hd2, _⟩ := hR.form
        clear hcs hcell hR
        by_cases hf : ((nthL xss m).length : Int) ≤ left - xss.length - sumL xss m
        · have e1 : szr (left - xss.length - sumL xss m) (nthL xss m).length = left - xss.length - sumL xss m - (nthL xss m).length := by unfold szr; rw [if_pos hf]
          have hnn : ¬ left - xss.length - sumL xss m - (nthL xss m).length < 0 := by omega
          have E1 := Lib.hid e1
          clear e1
          go_wp2_with (go_at_call 28; refine (szIntS_any _ (nthL xss m) _ lo hi _ HR.out (by omega) (by omega)).mono ?_; rintro e w' ⟨rfl, rfl⟩; rw [E1.out])
          go_round
          case rel =>
            have := HS.out
            exact ⟨m + 1, by omega, by go_num, by rw [this]; congr 1; omega, by rw [this]; omega⟩
          case measure => simp [intOf]; omega
        · have e1 : szr (left - xss.length - sumL xss m) (nthL xss m).length = -1 := by unfold szr; rw [if_neg hf]
          have E1 := Lib.hid e1
          clear e1
          go_wp2_with (go_at_call 28; refine (szIntS_any _ (nthL xss m) _ lo hi _ HR.out (by omega) (by omega)).mono ?_; rintro e w' ⟨rfl, rfl⟩; rw [E1.out])
          go_ret
          have h3 := HS.out
          have h4 := HZ.out
          exact ⟨ret_int (by unfold szr; rw [if_neg (by omega)]), rfl⟩
      · obtain rfl : m = xss.length := by omega
        go_wp2
        go_ret
        have h4 := HZ.out
        exact ⟨ret_int (by unfold szr; rw [if_pos (by omega)]; omega), rfl⟩
  · have : left - xss.length < 0 := by omega
    go_enter Try.func7, Try.ntmps7
    go_wp2
    go_ret
    have h4 := HZ.out
    exact ⟨ret_int (by unfold szr; rw [if_neg (by omega)]), rfl⟩

set_option maxHeartbeats 1000000 in
theorem toIntSS_any (v : Value) (xss : List (List Int)) (lo hi : Nat) (w : World) (h : IntSS w lo hi v xss) (hhi : hi ≤ w.heap.size) (hn : szSS xss ≤ 1048576) :
    Calls Try.prog 10 #[v] w fun e w' => ∃ r, e = .returned r ∧ IntSSx w' w.heap.size w'.heap.size r xss ∧ Below w.heap.size w w' := by
  obtain ⟨A, c, rfl, hc1, hc2, hcell⟩ := h.form
  have hln : xss.length ≤ 1048576 := by unfold szSS at hn; omega
  have hmk := fun W => run_make_row' (P := Try.prog) 26 23 (.slice none 0 0) 24 Try.underlying26 Try.info23 rfl .i64 .i64 xss.length (by omega) (by omega) W
  go_enter Try.func10, Try.ntmps10
  go_wp2
  go_loopw [4] (fun i wr => ∃ (k : Nat) (vs : Nat → Value), k ≤ xss.length ∧ i = .int .i64 k ∧ wr.rowIs w.heap.size 23 xss.length (fun j => if j < k then vs j else .slice none 0 0) ∧ (∀ j, j < k → IntS wr (w.heap.size + 1) wr.heap.size (vs j) (nthL xss j)) ∧
      (∀ i j, i < j → j < k → rowOf (nthL xss i).length (vs i) = none ∨ rowOf (nthL xss i).length (vs i) ≠ rowOf (nthL xss j).length (vs j)) ∧ Below w.heap.size w wr) (fun i _ => xss.length - (intOf i).toNat)
  case atStart => exact ⟨0, fun _ => undef, Nat.zero_le _, rfl, (World.rowIs_made w (.slice none 0 0) xss.length 23).congr (fun i _ => by simp), fun j hj => absurd hj (by omega), fun i j _ hj => absurd hj (by omega), (Below.refl _ _).alloc (Nat.le_refl _) _⟩
  case round =>
    obtain ⟨k, vs, hk, rfl, hrow, hvs, hap, hb⟩ := hrel
    clear hmk
    have HV := Lib.hid hvs
    have HA := Lib.hid hap
    clear hvs hap
    by_cases hlt : k < xss.length
    · obtain ⟨b, off, rfl, hb1, hb2, hcs⟩ := hcell (by omega)
      obtain ⟨u, hcu, hR⟩ := hcs k hlt
      have hck := (hb.cell (p := ⟨b, off + k, none⟩) (by show b < _; omega)).trans hcu
      have hRw : IntS wr lo hi u (nthL xss k) := hR.below hb (by omega)
      have HR := Lib.hid hRw
      have hlk := len_le_cnt xss k hlt
      have hlk2 : (nthL xss k).length ≤ 16777216 := by unfold szSS at hn; omega
      obtain ⟨A2, c2, rfl, hd1, hd2, _⟩ := hR.form
      clear hcs hcell hR hcu hRw
      have hs0 := hb.size
      go_wp2_with fail
      refine (toIntS_any _ (nthL xss k) lo hi _ HR.out (by omega) hlk2).mono ?_
      rintro e w1 ⟨r, rfl, hr, hbq⟩
      have hs1 := hbq.size
      have hrow1 : w1.rowIs w.heap.size 23 xss.length (fun j => if j < k then vs j else .slice none 0 0) := hrow.of_block (hbq.block _ hrow.lt)
      have hbw1 := hb.trans (hbq.mono hb.size)
      have oc := hrow1.cell (i := k) hlt
      have of := hrow1.frozen k
      have RR := Lib.hid hr
      obtain ⟨Ar, cr, rfl, hr1, hr2, _⟩ := hr.form
      have hlt0 := hrow.lt
      clear hck hr
      go_wp2_with fail
      go_roundw
      case rel =>
        refine ⟨k + 1, fun j => if j = k then .slice Ar (nthL xss k).length cr else vs j, by omega, by go_num, ?_, ?_, ?_, hbw1.setCell (by simp) _⟩
        · refine (hrow1.set k _).congr fun j hj => ?_
          dsimp only
          by_cases e : j = k
          · subst e; rw [if_pos rfl, if_pos (by omega), if_pos rfl]
          · rw [if_neg e]
            by_cases e2 : j < k
            · rw [if_pos e2, if_pos (by omega), if_neg e]
            · rw [if_neg e2, if_neg (by omega)]
        · intro j hj
          show IntS _ _ _ (if j = k then .slice Ar (nthL xss k).length cr else vs j) _
          have hkeep : ∀ q, w.heap.size + 1 ≤ q → (w1.setCell ⟨w.heap.size, k, none⟩ (.slice Ar (nthL xss k).length cr)).heap[q]? = w1.heap[q]? := fun q hq => Below.heap_setCell _ _ _ _ (by show q ≠ w.heap.size; omega)
          by_cases e : j = k
          · subst e
            rw [if_pos rfl]
            exact (RR.out.mono (by omega) (by simp [World.setCell])).keep fun q hq _ => hkeep q (by omega)
          · rw [if_neg e]
            exact (((HV.out j (by omega)).below hbq (Nat.le_refl _)).mono (Nat.le_refl _) (by simpa [World.setCell] using hs1)).keep fun q hq _ => hkeep q hq
        · intro i j hij hj
          show rowOf _ (if i = k then .slice Ar (nthL xss k).length cr else vs i) = none ∨ rowOf _ (if i = k then .slice Ar (nthL xss k).length cr else vs i) ≠ rowOf _ (if j = k then .slice Ar (nthL xss k).length cr else vs j)
          rw [if_neg (by omega)]
          by_cases e : j = k
          · subst e
            rw [if_pos rfl]
            rcases Sl.row (HV.out i (by omega)) with e1 | ⟨b1, e1, _, e3⟩
            · exact .inl e1
            · right
              rw [e1]
              rcases Sl.row RR.out with e4 | ⟨b2, e4, e5, _⟩
              · rw [e4]; simp
              · rw [e4]; intro e6; injection e6; omega
          · rw [if_neg e]
            exact HA.out i j hij (by omega)
      case measure => simp [intOf]; omega
    · obtain rfl : k = xss.length := by omega
      go_wp2
      go_ret
      refine ⟨.slice (some ⟨w.heap.size, 0, none⟩) xss.length xss.length, rfl, ⟨vs, ?_, fun i hi => (HV.out i hi).mono (by omega) (Nat.le_refl _), HA.out, fun i hi => ?_⟩, hb⟩
      · exact (Sl.of_row hrow (Nat.le_refl _) (by omega) (Nat.le_refl _) (by unfold maxLen; omega)).congr fun j hj => by rw [if_pos (by omega)]
      · rcases Sl.row (HV.out i hi) with e1 | ⟨b1, e1, e2, e3⟩
        · exact .inl e1
        · right
          rw [e1, rowOf_some (by omega)]
          intro e6; injection e6; omega

set_option maxHeartbeats 1000000 in
theorem eqIntSS_same (v1 v2 : Value) (xss : List (List Int)) (lo1 hi1 lo2 hi2 : Nat) (w : World) (h1 : IntSS w lo1 hi1 v1 xss) (h2 : IntSS w lo2 hi2 v2 xss) (hh1 : hi1 ≤ w.heap.size) (hh2 : hi2 ≤ w.heap.size) :
    Calls Try.prog 13 #[v1, v2] w fun e w' => e = .returned (.bool true) ∧ Below w.heap.size w w' := by
  obtain ⟨A, c, rfl, hc1, hc2, hcell⟩ := h1.form
  obtain ⟨A2, c2, rfl, hd1, hd2, hcell2⟩ := h2.form
  unfold maxLen at hc2 hd2
  go_enter Try.func13, Try.ntmps13
  go_wp2
  go_loopw [5] (fun i wr => ∃ k : Nat, k ≤ xss.length ∧ i = .int .i64 k ∧ Below w.heap.size w wr) (fun i _ => xss.length - (intOf i).toNat)
  case atStart => exact ⟨0, Nat.zero_le _, rfl, Below.refl _ _⟩
  case round =>
    obtain ⟨k, hk, rfl, hb⟩ := hrel
    have hs0 := hb.size
    by_cases hlt : k < xss.length
    · obtain ⟨b, off, rfl, hb1, hb2, hcs⟩ := hcell (by omega)
      obtain ⟨b', off', rfl, hb1', hb2', hcs'⟩ := hcell2 (by omega)
      obtain ⟨u1, x1, r1⟩ := hcs k hlt
      obtain ⟨u2, x2, r2⟩ := hcs' k hlt
      have p1 := (hb.cell (p := ⟨b, off + k, none⟩) (by show b < _; omega)).trans x1
      have p2 := (hb.cell (p := ⟨b', off' + k, none⟩) (by show b' < _; omega)).trans x2
      have R1 := Lib.hid (r1.below hb (by omega))
      have R2 := Lib.hid (r2.below hb (by omega))
      obtain ⟨B1, e1, rfl, _, _, _⟩ := r1.form
      obtain ⟨B2, e2, rfl, _, _, _⟩ := r2.form
      clear hcs hcs' hcell hcell2 x1 x2 r1 r2
      have q1 : hi1 ≤ wr.heap.size := by omega
      have q2 : hi2 ≤ wr.heap.size := by omega
      go_wp2
      go_region_with (go_at_call 22; refine (eqIntS_same _ _ (nthL xss k) lo1 hi1 lo2 hi2 _ (by exact R1.out) (by exact R2.out) (by exact q1) (by exact q2)).mono ?_; rintro e w1 ⟨rfl, hbq⟩)
      all_goals (try go_wp2)
      all_goals go_roundw
      case rel => exact ⟨k + 1, by omega, by go_num, hb.drew.trans (hbq.mono hb.size)⟩
      case measure => simp [intOf]; omega
      case rel => exact ⟨k + 1, by omega, by go_num, hb.drew.trans (hbq.mono hb.size)⟩
      case measure => simp [intOf]; omega
    · obtain rfl : k = xss.length := by omega
      go_wp2
      go_ret
      exact ⟨rfl, hb⟩

/-- what mark leaves in a slice of slices -/
def mkIntSS (k : Int) (xss : List (List Int)) : List (List Int) := (List.range xss.length).map fun i => run (k + sumL xss i) (nthL xss i).length
theorem mkIntSS_length (k : Int) (xss : List (List Int)) : (mkIntSS k xss).length = xss.length := by simp [mkIntSS]
theorem nthL_mkIntSS (k : Int) (xss : List (List Int)) (i : Nat) (h : i < xss.length) : nthL (mkIntSS k xss) i = run (k + sumL xss i) (nthL xss i).length := by
  rw [nthL_eq (by rw [mkIntSS_length]; exact h)]
  simp [mkIntSS]

end Go.Proofs.Ytmfjdiccohgihaa
