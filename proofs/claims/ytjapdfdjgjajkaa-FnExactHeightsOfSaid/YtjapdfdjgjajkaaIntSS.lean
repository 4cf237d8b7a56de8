/-
  Contracts of the laws' helpers on slices of slices of integers.
-/
import Derived.Test.YtjapdfdjgjajkaaRows
import Derived.Test.YtjapdfdjgjajkaaInts
import Derived.Test.YtjapdfdjgjajkaaSS
import Derived.Deep.RegionWith
import Derived.Test.YtjapdfdjgjajkaaEnds
namespace Go.Proofs.Ytjapdfdjgjajkaa
open Go.ChangeShapes Go.WideShapes Go.ChangeAt Go.RowKit
set_option linter.unusedVariables false

theorem Try.info23 : (Try.prog.info? 23).map (fun i => (i.zero, i.size, i.bytes)) = some (some (.slice none 0 0), 1, 24) := by kernel_rfl

set_option maxHeartbeats 1000000 in
theorem szIntSS_any (v : Value) (xss : List (List Int)) (left : Int) (lo hi : Nat) (w : World) (h : IntSS w lo hi v xss) (h0 : 0 ≤ left) (h1 : left ≤ 1048576) :
    Calls Try.prog 15 #[v, .int .i64 left] w fun e w' => e = .returned (.int .i64 (szr left (szSS xss))) ∧ w = w' := by
  obtain ⟨A, c, rfl, hc1, hc2, hcell⟩ := h.form
  unfold maxLen at hc2
  have hz : szSS xss = xss.length + sumL xss xss.length := rfl
  have HZ := Lib.hid hz
  clear hz
  by_cases hl : (xss.length : Int) ≤ left
  · have : ¬ left - xss.length < 0 := by omega
    go_enter Try.func15, Try.ntmps15
    go_wp2
    go_loop [5, 1] (fun i l => ∃ m : Nat, m ≤ xss.length ∧ i = .int .i64 m ∧ l = .int .i64 (left - xss.length - sumL xss m) ∧ 0 ≤ left - xss.length - sumL xss m) (fun i _ => xss.length - (intOf i).toNat)
    case atStart => exact ⟨0, Nat.zero_le _, rfl, by rw [sumL_zero]; simp, by rw [sumL_zero]; omega⟩
    case round =>
      obtain ⟨m, hm, rfl, rfl, hge⟩ := hrel
      by_cases hlt : m < xss.length
      · obtain ⟨b, off, rfl, hb1, hb2, hcs⟩ := hcell (by omega)
        obtain ⟨u, hcu, hR⟩ := hcs m hlt
        have HS := Lib.hid (sumL_succ xss m hlt)
        have hmo := sumL_mono xss (m + 1) (by omega)
        have HR := Lib.hid hR
        obtain ⟨A2, c2, rfl, hd1, hd2, _⟩ := hR.form
        clear hcs hcell hR
        by_cases hf : ((nthL xss m).length : Int) ≤ left - xss.length - sumL xss m
        · have e1 : szr (left - xss.length - sumL xss m) (nthL xss m).length = left - xss.length - sumL xss m - (nthL xss m).length := by unfold szr; rw [if_pos hf]
          have hnn : ¬ left - xss.length - sumL xss m - (nthL xss m).length < 0 := by omega
          have E1 := Lib.hid e1
          clear e1
          go_wp2_with (go_at_call 25; refine (szIntS_any _ (nthL xss m) _ lo hi _ HR.out (by omega) (by omega)).mono ?_; rintro e w' ⟨rfl, rfl⟩; rw [E1.out])
          go_round
          case rel =>
            have := HS.out
            exact ⟨m + 1, by omega, by go_num, by rw [this]; congr 1; omega, by rw [this]; omega⟩
          case measure => simp [intOf]; omega
        · have e1 : szr (left - xss.length - sumL xss m) (nthL xss m).length = -1 := by unfold szr; rw [if_neg hf]
          have E1 := Lib.hid e1
          clear e1
          go_wp2_with (go_at_call 25; refine (szIntS_any _ (nthL xss m) _ lo hi _ HR.out (by omega) (by omega)).mono ?_; rintro e w' ⟨rfl, rfl⟩; rw [E1.out])
          go_ret
          have h3 := HS.out
          have h4 := HZ.out
          exact ⟨ret_int (by unfold szr; rw [if_neg (by omega)]), rfl⟩
      · obtain rfl : m = xss.length := by omega
        go_wp2
        go_ret
        have h4 := HZ.out
        exact ⟨ret_int (by unfold szr; rw [if_pos (by omega)]; omega), rfl⟩
  · have : left - xss.length < 0 := by omega
    go_enter Try.func15, Try.ntmps15
    go_wp2
    go_ret
    have h4 := HZ.out
    exact ⟨ret_int (by unfold szr; rw [if_neg (by omega)]), rfl⟩

set_option maxHeartbeats 1000000 in
theorem toIntSS_any (v : Value) (xss : List (List Int)) (lo hi : Nat) (w : World) (h : IntSS w lo hi v xss) (hhi : hi ≤ w.heap.size) (hn : szSS xss ≤ 1048576) :
    Calls Try.prog 17 #[v] w fun e w' => ∃ r, e = .returned r ∧ IntSSx w' w.heap.size w'.heap.size r xss ∧ Below w.heap.size w w' := by
  obtain ⟨A, c, rfl, hc1, hc2, hcell⟩ := h.form
  have hln : xss.length ≤ 1048576 := by unfold szSS at hn; omega
  have hmk := fun W => run_make_row' (P := Try.prog) 27 23 (.slice none 0 0) 24 Try.underlying27 Try.info23 rfl .i64 .i64 xss.length (by omega) (by omega) W
  go_enter Try.func17, Try.ntmps17
  go_wp2
  go_loopw [4] (fun i wr => ∃ (k : Nat) (vs : Nat → Value), k ≤ xss.length ∧ i = .int .i64 k ∧ wr.rowIs w.heap.size 23 xss.length (fun j => if j < k then vs j else .slice none 0 0) ∧ (∀ j, j < k → IntS wr (w.heap.size + 1) wr.heap.size (vs j) (nthL xss j)) ∧
      (∀ i j, i < j → j < k → rowOf (nthL xss i).length (vs i) = none ∨ rowOf (nthL xss i).length (vs i) ≠ rowOf (nthL xss j).length (vs j)) ∧ Below w.heap.size w wr) (fun i _ => xss.length - (intOf i).toNat)
  case atStart => exact ⟨0, fun _ => undef, Nat.zero_le _, rfl, (World.rowIs_made w (.slice none 0 0) xss.length 23).congr (fun i _ => by simp), fun j hj => absurd hj (by omega), fun i j _ hj => absurd hj (by omega), (Below.refl _ _).alloc (Nat.le_refl _) _⟩
  case round =>
    obtain ⟨k, vs, hk, rfl, hrow, hvs, hap, hb⟩ := hrel
    clear hmk
    have HV := Lib.hid hvs
    have HA := Lib.hid hap
    clear hvs hap
    by_cases hlt : k < xss.length
    · obtain ⟨b, off, rfl, hb1, hb2, hcs⟩ := hcell (by omega)
      obtain ⟨u, hcu, hR⟩ := hcs k hlt
      have hck := (hb.cell (p := ⟨b, off + k, none⟩) (by show b < _; omega)).trans hcu
      have hRw : IntS wr lo hi u (nthL xss k) := hR.below hb (by omega)
      have HR := Lib.hid hRw
      have hlk := len_le_cnt xss k hlt
      have hlk2 : (nthL xss k).length ≤ 16777216 := by unfold szSS at hn; omega
      obtain ⟨A2, c2, rfl, hd1, hd2, _⟩ := hR.form
      clear hcs hcell hR hcu hRw
      have hs0 := hb.size
      go_wp2_with fail
      refine (toIntS_any _ (nthL xss k) lo hi _ HR.out (by omega) hlk2).mono ?_
      rintro e w1 ⟨r, rfl, hr, hbq⟩
      have hs1 := hbq.size
      have hrow1 : w1.rowIs w.heap.size 23 xss.length (fun j => if j < k then vs j else .slice none 0 0) := hrow.of_block (hbq.block _ hrow.lt)
      have hbw1 := hb.trans (hbq.mono hb.size)
      have oc := hrow1.cell (i := k) hlt
      have of := hrow1.frozen k
      have RR := Lib.hid hr
      obtain ⟨Ar, cr, rfl, hr1, hr2, _⟩ := hr.form
      have hlt0 := hrow.lt
      clear hck hr
      go_wp2_with fail
      go_roundw
      case rel =>
        refine ⟨k + 1, fun j => if j = k then .slice Ar (nthL xss k).length cr else vs j, by omega, by go_num, ?_, ?_, ?_, hbw1.setCell (by simp) _⟩
        · refine (hrow1.set k _).congr fun j hj => ?_
          dsimp only
          by_cases e : j = k
          · subst e; rw [if_pos rfl, if_pos (by omega), if_pos rfl]
          · rw [if_neg e]
            by_cases e2 : j < k
            · rw [if_pos e2, if_pos (by omega), if_neg e]
            · rw [if_neg e2, if_neg (by omega)]
        · intro j hj
          show IntS _ _ _ (if j = k then .slice Ar (nthL xss k).length cr else vs j) _
          have hkeep : ∀ q, w.heap.size + 1 ≤ q → (w1.setCell ⟨w.heap.size, k, none⟩ (.slice Ar (nthL xss k).length cr)).heap[q]? = w1.heap[q]? := fun q hq => Below.heap_setCell _ _ _ _ (by show q ≠ w.heap.size; omega)
          by_cases e : j = k
          · subst e
            rw [if_pos rfl]
            exact (RR.out.mono (by omega) (by simp [World.setCell])).keep fun q hq _ => hkeep q (by omega)
          · rw [if_neg e]
            exact (((HV.out j (by omega)).below hbq (Nat.le_refl _)).mono (Nat.le_refl _) (by simpa [World.setCell] using hs1)).keep fun q hq _ => hkeep q hq
        · intro i j hij hj
          show rowOf _ (if i = k then .slice Ar (nthL xss k).length cr else vs i) = none ∨ rowOf _ (if i = k then .slice Ar (nthL xss k).length cr else vs i) ≠ rowOf _ (if j = k then .slice Ar (nthL xss k).length cr else vs j)
          rw [if_neg (by omega)]
          by_cases e : j = k
          · subst e
            rw [if_pos rfl]
            rcases Sl.row (HV.out i (by omega)) with e1 | ⟨b1, e1, _, e3⟩
            · exact .inl e1
            · right
              rw [e1]
              rcases Sl.row RR.out with e4 | ⟨b2, e4, e5, _⟩
              · rw [e4]; simp
              · rw [e4]; intro e6; injection e6; omega
          · rw [if_neg e]
            exact HA.out i j hij (by omega)
      case measure => simp [intOf]; omega
    · obtain rfl : k = xss.length := by omega
      go_wp2
      go_ret
      refine ⟨.slice (some ⟨w.heap.size, 0, none⟩) xss.length xss.length, rfl, ⟨vs, ?_, fun i hi => (HV.out i hi).mono (by omega) (Nat.le_refl _), HA.out, fun i hi => ?_⟩, hb⟩
      · exact (Sl.of_row hrow (Nat.le_refl _) (by omega) (Nat.le_refl _) (by unfold maxLen; omega)).congr fun j hj => by rw [if_pos (by omega)]
      · rcases Sl.row (HV.out i hi) with e1 | ⟨b1, e1, e2, e3⟩
        · exact .inl e1
        · right
          rw [e1, rowOf_some (by omega)]
          intro e6; injection e6; omega

set_option maxHeartbeats 1000000 in
theorem eqIntSS_same (v1 v2 : Value) (xss : List (List Int)) (lo1 hi1 lo2 hi2 : Nat) (w : World) (h1 : IntSS w lo1 hi1 v1 xss) (h2 : IntSS w lo2 hi2 v2 xss) (hh1 : hi1 ≤ w.heap.size) (hh2 : hi2 ≤ w.heap.size) :
    Calls Try.prog 10 #[v1, v2] w fun e w' => e = .returned (.bool true) ∧ Below w.heap.size w w' := by
  obtain ⟨A, c, rfl, hc1, hc2, hcell⟩ := h1.form
  obtain ⟨A2, c2, rfl, hd1, hd2, hcell2⟩ := h2.form
  unfold maxLen at hc2 hd2
  go_enter Try.func10, Try.ntmps10
  go_wp2
  go_loopw [5] (fun i wr => ∃ k : Nat, k ≤ xss.length ∧ i = .int .i64 k ∧ Below w.heap.size w wr) (fun i _ => xss.length - (intOf i).toNat)
  case atStart => exact ⟨0, Nat.zero_le _, rfl, Below.refl _ _⟩
  case round =>
    obtain ⟨k, hk, rfl, hb⟩ := hrel
    have hs0 := hb.size
    by_cases hlt : k < xss.length
    · obtain ⟨b, off, rfl, hb1, hb2, hcs⟩ := hcell (by omega)
      obtain ⟨b', off', rfl, hb1', hb2', hcs'⟩ := hcell2 (by omega)
      obtain ⟨u1, x1, r1⟩ := hcs k hlt
      obtain ⟨u2, x2, r2⟩ := hcs' k hlt
      have p1 := (hb.cell (p := ⟨b, off + k, none⟩) (by show b < _; omega)).trans x1
      have p2 := (hb.cell (p := ⟨b', off' + k, none⟩) (by show b' < _; omega)).trans x2
      have R1 := Lib.hid (r1.below hb (by omega))
      have R2 := Lib.hid (r2.below hb (by omega))
      obtain ⟨B1, e1, rfl, _, _, _⟩ := r1.form
      obtain ⟨B2, e2, rfl, _, _, _⟩ := r2.form
      clear hcs hcs' hcell hcell2 x1 x2 r1 r2
      have q1 : hi1 ≤ wr.heap.size := by omega
      have q2 : hi2 ≤ wr.heap.size := by omega
      go_wp2
      go_region_with (go_at_call 21; refine (eqIntS_same _ _ (nthL xss k) lo1 hi1 lo2 hi2 _ (by exact R1.out) (by exact R2.out) (by exact q1) (by exact q2)).mono ?_; rintro e w1 ⟨rfl, hbq⟩)
      all_goals (try go_wp2)
      all_goals go_roundw
      case rel => exact ⟨k + 1, by omega, by go_num, hb.drew.trans (hbq.mono hb.size)⟩
      case measure => simp [intOf]; omega
      case rel => exact ⟨k + 1, by omega, by go_num, hb.drew.trans (hbq.mono hb.size)⟩
      case measure => simp [intOf]; omega
    · obtain rfl : k = xss.length := by omega
      go_wp2
      go_ret
      exact ⟨rfl, hb⟩

/-- what mark leaves in a slice of slices -/
def mkIntSS (k : Int) (xss : List (List Int)) : List (List Int) := (List.range xss.length).map fun i => run (k + sumL xss i) (nthL xss i).length
theorem mkIntSS_length (k : Int) (xss : List (List Int)) : (mkIntSS k xss).length = xss.length := by simp [mkIntSS]
theorem nthL_mkIntSS (k : Int) (xss : List (List Int)) (i : Nat) (h : i < xss.length) : nthL (mkIntSS k xss) i = run (k + sumL xss i) (nthL xss i).length := by
  rw [nthL_eq (by rw [mkIntSS_length]; exact h)]
  simp [mkIntSS]

set_option maxHeartbeats 2000000 in
theorem markIntSS_any (v : Value) (xss : List (List Int)) (k : Int) (lo hi : Nat) (w : World) (h : IntSSx w lo hi v xss) (hhi : hi ≤ w.heap.size) (hk0 : 0 ≤ k) (hk1 : k ≤ 1099511627776) (hn : cntSS xss ≤ 1099511627776) :
    Calls Try.prog 13 #[v, .int .i64 k] w fun e w' => e = .returned (.int .i64 (k + cntSS xss)) ∧ IntSSx w' lo hi v (mkIntSS k xss) ∧ Turned lo hi w w' := by
  obtain ⟨A, c, rfl, hc1, hc2, hcell⟩ := h.ss.form
  obtain ⟨vs, hsl, hvs, hap, hao⟩ := h
  unfold maxLen at hc2
  have HV := Lib.hid hvs
  have HA := Lib.hid hap
  have HO := Lib.hid hao
  clear hvs hap hao
  go_enter Try.func13, Try.ntmps13
  go_wp2
  go_loopw [5, 1] (fun i kv wr => ∃ m : Nat, m ≤ xss.length ∧ i = .int .i64 m ∧ kv = .int .i64 (k + sumL xss m) ∧ Sl wr lo hi 1 (.slice A xss.length c) xss.length vs ∧
      (∀ j, j < m → IntS wr lo hi (vs j) (run (k + sumL xss j) (nthL xss j).length)) ∧ (∀ j, m ≤ j → j < xss.length → IntS wr lo hi (vs j) (nthL xss j)) ∧ Turned lo hi w wr ∧ Hid (wr.heap.size = w.heap.size)) (fun i _ _ => xss.length - (intOf i).toNat)
  case atStart => exact ⟨0, Nat.zero_le _, rfl, by rw [sumL_zero]; simp, hsl, fun j hj => absurd hj (by omega), fun j _ hj => HV.out j hj, Turned.refl _ _ _, Lib.hid rfl⟩
  case round =>
    obtain ⟨m, hm, rfl, rfl, hs, hl, hr, ht, HS⟩ := hrel
    have HL := Lib.hid hl
    have HR := Lib.hid hr
    clear hl hr
    have hmo := sumL_mono xss m hm
    have hcs : sumL xss xss.length ≤ 1099511627776 := hn
    have hsz : w.heap.size ≤ wr.heap.size := ht.size
    by_cases hlt : m < xss.length
    · obtain ⟨b, off, rfl, hb1, hb2, _⟩ := hcell (by omega)
      obtain ⟨hck, hfk⟩ := hs.at_ (j := m) (by omega)
      have hu := HR.out m (Nat.le_refl _) hlt
      have HU := Lib.hid hu
      have HSU := Lib.hid (sumL_succ xss m hlt)
      have hmo2 := sumL_mono xss (m + 1) (by omega)
      have hlen : (nthL xss m).length ≤ 1099511627776 := by have := HSU.out; omega
      obtain ⟨A2, c2, e2, hd1, hd2, _⟩ := hu.form
      rw [e2] at hck
      rw [e2] at HU
      have E2 := Lib.hid e2
      clear hu e2 hcell hfk
      go_wp2_with fail
      refine (markIntS_any _ (nthL xss m) _ lo hi _ HU.out (by omega) (by omega) (by omega) (by omega)).mono ?_
      rintro e w1 ⟨rfl, hr1, hg1, hz1⟩
      have HR1 := Lib.hid hr1
      have HZ1 := Lib.hid hz1
      clear hr1 hz1
      go_wp2_with fail
      go_roundw
      case rel =>
        have hT : Turned lo hi wr w1 := Turned.of_row (HU.out) hg1
        refine ⟨m + 1, by omega, by go_num, by rw [HSU.out]; go_num, ?_, ?_, ?_, ht.trans hT, Lib.hid (by rw [HZ1.out]; exact HS.out)⟩
        · refine hs.grown hg1 (by omega) ?_
          have := HO.out m hlt
          rw [E2.out] at this
          rcases this with e | e
          · right; rw [e, rowOf_some (by omega)]; simp
          · exact .inr fun e3 => e e3.symm
        · intro j hj
          by_cases e : j = m
          · subst e; rw [E2.out]; exact HR1.out
          · refine Sl.grown (HL.out j (by omega)) hg1 (by omega) ?_
            rw [run_length]
            have := HA.out j m (by omega) hlt
            rw [E2.out] at this
            exact this
        · intro j hj hjl
          refine Sl.grown (HR.out j (by omega) hjl) hg1 (by omega) ?_
          have := HA.out m j (by omega) hjl
          rw [E2.out] at this
          rcases this with e | e
          · cases hq : rowOf (nthL xss j).length (vs j) with
            | none => exact .inl rfl
            | some q => right; rw [e]; simp
          · exact .inr fun e3 => e e3.symm
      case measure => simp [intOf]; omega
    · obtain rfl : m = xss.length := by omega
      go_wp2
      go_ret
      refine ⟨rfl, ⟨vs, ?_, fun i hi => ?_, fun i j hij hj => ?_, fun i hi => ?_⟩, ht⟩
      · rw [mkIntSS_length]; exact hs
      · rw [mkIntSS_length] at hi
        rw [nthL_mkIntSS _ _ _ hi]
        exact HL.out i hi
      · rw [mkIntSS_length] at hj
        rw [nthL_mkIntSS _ _ _ hj, nthL_mkIntSS _ _ _ (by omega), run_length, run_length]
        exact HA.out i j hij hj
      · rw [mkIntSS_length] at hi
        rw [nthL_mkIntSS _ _ _ hi, run_length, mkIntSS_length]
        exact HO.out i hi

set_option maxHeartbeats 1000000 in
/-- the numbers that mark left are found -/
theorem heldIntSS_yes (v : Value) (xss : List (List Int)) (k : Int) (lo hi : Nat) (w : World) (h : IntSS w lo hi v (mkIntSS k xss)) (hhi : hi ≤ w.heap.size) (hk0 : 0 ≤ k) (hk1 : k ≤ 1099511627776) (hn : cntSS xss ≤ 1099511627776) :
    Calls Try.prog 14 #[v, .int .i64 k] w fun e w' => e = .returned (.int .i64 (k + cntSS xss)) ∧ Below w.heap.size w w' := by
  obtain ⟨A, c, rfl, hc1, hc2, hcell⟩ := h.form
  rw [mkIntSS_length] at *
  unfold maxLen at hc2
  go_enter Try.func14, Try.ntmps14
  go_wp2
  go_loopw [5, 1] (fun i kv wr => ∃ m : Nat, m ≤ xss.length ∧ i = .int .i64 m ∧ kv = .int .i64 (k + sumL xss m) ∧ Below w.heap.size w wr) (fun i _ _ => xss.length - (intOf i).toNat)
  case atStart => exact ⟨0, Nat.zero_le _, rfl, by rw [sumL_zero]; simp, Below.refl _ _⟩
  case round =>
    obtain ⟨m, hm, rfl, rfl, hb⟩ := hrel
    have hmo := sumL_mono xss m hm
    have hcs : sumL xss xss.length ≤ 1099511627776 := hn
    have hs0 := hb.size
    by_cases hlt : m < xss.length
    · obtain ⟨b, off, rfl, hb1, hb2, hcs2⟩ := hcell (by omega)
      obtain ⟨u, x1, r1⟩ := hcs2 m hlt
      rw [nthL_mkIntSS _ _ _ hlt] at r1
      have p1 := (hb.cell (p := ⟨b, off + m, none⟩) (by show b < _; omega)).trans x1
      have R1 := Lib.hid (r1.below hb (by omega))
      have HSU := Lib.hid (sumL_succ xss m hlt)
      have hmo2 := sumL_mono xss (m + 1) (by omega)
      have hlen : (nthL xss m).length ≤ 1099511627776 := by have := HSU.out; omega
      obtain ⟨A2, c2, rfl, hd1, hd2, _⟩ := r1.form
      clear hcs2 x1 r1 hcell
      have hrl := run_length (k + sumL xss m) (nthL xss m).length
      have HRL := Lib.hid hrl
      clear hrl
      go_wp2_with fail
      refine (heldIntS_yes _ (nthL xss m) _ lo hi _ R1.out (by omega) (by omega) (by omega)).mono ?_
      rintro e w1 ⟨rfl, hbq⟩
      go_wp2_with fail
      go_roundw
      case rel => exact ⟨m + 1, by omega, by go_num, by rw [HSU.out]; go_num, hb.trans (hbq.mono hs0)⟩
      case measure => simp [intOf]; omega
    · obtain rfl : m = xss.length := by omega
      go_wp2
      go_ret
      exact ⟨rfl, hb⟩

end Go.Proofs.Ytjapdfdjgjajkaa
