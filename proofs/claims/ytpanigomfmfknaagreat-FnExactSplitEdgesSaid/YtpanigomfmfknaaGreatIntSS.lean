/-
  Contracts of the laws' helpers on slices of slices of integers.
-/
import Derived.Test.YtpanigomfmfknaaGreatRows
import Derived.Test.YtpanigomfmfknaaGreatInts
import Derived.Test.YtpanigomfmfknaaGreatSS
import Derived.Deep.RegionWith
import Derived.Test.YtpanigomfmfknaaGreatEnds
namespace Go.Proofs.YtpanigomfmfknaaGreat
open Go.ChangeShapes Go.WideShapes Go.ChangeAt Go.RowKit
set_option linter.unusedVariables false

theorem Tryz.info23 : (Tryz.prog.info? 23).map (fun i => (i.zero, i.size, i.bytes)) = some (some (.slice none 0 0), 1, 24) := by kernel_rfl

set_option maxHeartbeats 1000000 in
theorem eqIntSS_same (v1 v2 : Value) (xss : List (List Int)) (lo1 hi1 lo2 hi2 : Nat) (w : World) (h1 : IntSS w lo1 hi1 v1 xss) (h2 : IntSS w lo2 hi2 v2 xss) (hh1 : hi1 ≤ w.heap.size) (hh2 : hi2 ≤ w.heap.size) :
    Calls Tryz.prog 9 #[v1, v2] w fun e w' => e = .returned (.bool true) ∧ Below w.heap.size w w' := by
  obtain ⟨A, c, rfl, hc1, hc2, hcell⟩ := h1.form
  obtain ⟨A2, c2, rfl, hd1, hd2, hcell2⟩ := h2.form
  unfold maxLen at hc2 hd2
  go_enter Tryz.func9, Tryz.ntmps9
  go_wp2
  go_loopw [5] (fun i wr => ∃ k : Nat, k ≤ xss.length ∧ i = .int .i64 k ∧ Below w.heap.size w wr) (fun i _ => xss.length - (intOf i).toNat)
  case atStart => exact ⟨0, Nat.zero_le _, rfl, Below.refl _ _⟩
  case round =>
    obtain ⟨k, hk, rfl, hb⟩ := hrel
    have hs0 := hb.size
    by_cases hlt : k < xss.length
    · obtain ⟨b, off, rfl, hb1, hb2, hcs⟩ := hcell (by omega)
      obtain ⟨b', off', rfl, hb1', hb2', hcs'⟩ := hcell2 (by omega)
      obtain ⟨u1, x1, r1⟩ := hcs k hlt
      obtain ⟨u2, x2, r2⟩ := hcs' k hlt
      have p1 := (hb.cell (p := ⟨b, off + k, none⟩) (by show b < _; omega)).trans x1
      have p2 := (hb.cell (p := ⟨b', off' + k, none⟩) (by show b' < _; omega)).trans x2
      have R1 := Lib.hid (r1.below hb (by omega))
      have R2 := Lib.hid (r2.below hb (by omega))
      obtain ⟨B1, e1, rfl, _, _, _⟩ := r1.form
      obtain ⟨B2, e2, rfl, _, _, _⟩ := r2.form
      clear hcs hcs' hcell hcell2 x1 x2 r1 r2
      have q1 : hi1 ≤ wr.heap.size := by omega
      have q2 : hi2 ≤ wr.heap.size := by omega
      go_wp2
      go_region_with (go_at_call 26; refine (eqIntS_same _ _ (nthL xss k) lo1 hi1 lo2 hi2 _ (by exact R1.out) (by exact R2.out) (by exact q1) (by exact q2)).mono ?_; rintro e w1 ⟨rfl, hbq⟩)
      all_goals (try go_wp2)
      all_goals go_roundw
      case rel => exact ⟨k + 1, by omega, by go_num, hb.drew.trans (hbq.mono hb.size)⟩
      case measure => simp [intOf]; omega
      case rel => exact ⟨k + 1, by omega, by go_num, hb.drew.trans (hbq.mono hb.size)⟩
      case measure => simp [intOf]; omega
    · obtain rfl : k = xss.length := by omega
      go_wp2
      go_ret
      exact ⟨rfl, hb⟩

/-- what mark leaves in a slice of slices -/
def mkIntSS (k : Int) (xss : List (List Int)) : List (List Int) := (List.range xss.length).map fun i => run (k + sumL xss i) (nthL xss i).length
theorem mkIntSS_length (k : Int) (xss : List (List Int)) : (mkIntSS k xss).length = xss.length := by simp [mkIntSS]
theorem nthL_mkIntSS (k : Int) (xss : List (List Int)) (i : Nat) (h : i < xss.length) : nthL (mkIntSS k xss) i = run (k + sumL xss i) (nthL xss i).length := by
  rw [nthL_eq (by rw [mkIntSS_length]; exact h)]
  simp [mkIntSS]

set_option maxHeartbeats 2000000 in
theorem markIntSS_any (v : Value) (xss : List (List Int)) (k : Int) (lo hi : Nat) (w : World) (h : IntSSx w lo hi v xss) (hhi : hi ≤ w.heap.size) (hk0 : 0 ≤ k) (hk1 : k ≤ 1099511627776) (hn : cntSS xss ≤ 1099511627776) :
    Calls Tryz.prog 12 #[v, .int .i64 k] w fun e w' => e = .returned (.int .i64 (k + cntSS xss)) ∧ IntSSx w' lo hi v (mkIntSS k xss) ∧ Turned lo hi w w' := by
  obtain ⟨A, c, rfl, hc1, hc2, hcell⟩ := h.ss.form
  obtain ⟨vs, hsl, hvs, hap, hao⟩ := h
  unfold maxLen at hc2
  have HV := Lib.hid hvs
  have HA := Lib.hid hap
  have HO := Lib.hid hao
  clear hvs hap hao
  go_enter Tryz.func12, Tryz.ntmps12
  go_wp2
  go_loopw [5, 1] (fun i kv wr => ∃ m : Nat, m ≤ xss.length ∧ i = .int .i64 m ∧ kv = .int .i64 (k + sumL xss m) ∧ Sl wr lo hi 1 (.slice A xss.length c) xss.length vs ∧
      (∀ j, j < m → IntS wr lo hi (vs j) (run (k + sumL xss j) (nthL xss j).length)) ∧ (∀ j, m ≤ j → j < xss.length → IntS wr lo hi (vs j) (nthL xss j)) ∧ Turned lo hi w wr ∧ Hid (wr.heap.size = w.heap.size)) (fun i _ _ => xss.length - (intOf i).toNat)
  case atStart => exact ⟨0, Nat.zero_le _, rfl, by rw [sumL_zero]; simp, hsl, fun j hj => absurd hj (by omega), fun j _ hj => HV.out j hj, Turned.refl _ _ _, Lib.hid rfl⟩
  case round =>
    obtain ⟨m, hm, rfl, rfl, hs, hl, hr, ht, HS⟩ := hrel
    have HL := Lib.hid hl
    have HR := Lib.hid hr
    clear hl hr
    have hmo := sumL_mono xss m hm
    have hcs : sumL xss xss.length ≤ 1099511627776 := hn
    have hsz : w.heap.size ≤ wr.heap.size := ht.size
    by_cases hlt : m < xss.length
    · obtain ⟨b, off, rfl, hb1, hb2, _⟩ := hcell (by omega)
      obtain ⟨hck, hfk⟩ := hs.at_ (j := m) (by omega)
      have hu := HR.out m (Nat.le_refl _) hlt
      have HU := Lib.hid hu
      have HSU := Lib.hid (sumL_succ xss m hlt)
      have hmo2 := sumL_mono xss (m + 1) (by omega)
      have hlen : (nthL xss m).length ≤ 1099511627776 := by have := HSU.out; omega
      obtain ⟨A2, c2, e2, hd1, hd2, _⟩ := hu.form
      rw [e2] at hck
      rw [e2] at HU
      have E2 := Lib.hid e2
      clear hu e2 hcell hfk
      go_wp2_with fail
      refine (markIntS_any _ (nthL xss m) _ lo hi _ HU.out (by omega) (by omega) (by omega) (by omega)).mono ?_
      rintro e w1 ⟨rfl, hr1, hg1, hz1⟩
      have HR1 := Lib.hid hr1
      have HZ1 := Lib.hid hz1
      clear hr1 hz1
      go_wp2_with fail
      go_roundw
      case rel =>
        have hT : Turned lo hi wr w1 := Turned.of_row (HU.out) hg1
        refine ⟨m + 1, by omega, by go_num, by rw [HSU.out]; go_num, ?_, ?_, ?_, ht.trans hT, Lib.hid (by rw [HZ1.out]; exact HS.out)⟩
        · refine hs.grown hg1 (by omega) ?_
          have := HO.out m hlt
          rw [E2.out] at this
          rcases this with e | e
          · right; rw [e, rowOf_some (by omega)]; simp
          · exact .inr fun e3 => e e3.symm
        · intro j hj
          by_cases e : j = m
          · subst e; rw [E2.out]; exact HR1.out
          · refine Sl.grown (HL.out j (by omega)) hg1 (by omega) ?_
            rw [run_length]
            have := HA.out j m (by omega) hlt
            rw [E2.out] at this
            exact this
        · intro j hj hjl
          refine Sl.grown (HR.out j (by omega) hjl) hg1 (by omega) ?_
          have := HA.out m j (by omega) hjl
          rw [E2.out] at this
          rcases this with e | e
          · cases hq : rowOf (nthL xss j).length (vs j) with
            | none => exact .inl rfl
            | some q => right; rw [e]; simp
          · exact .inr fun e3 => e e3.symm
      case measure => simp [intOf]; omega
    · obtain rfl : m = xss.length := by omega
      go_wp2
      go_ret
      refine ⟨rfl, ⟨vs, ?_, fun i hi => ?_, fun i j hij hj => ?_, fun i hi => ?_⟩, ht⟩
      · rw [mkIntSS_length]; exact hs
      · rw [mkIntSS_length] at hi
        rw [nthL_mkIntSS _ _ _ hi]
        exact HL.out i hi
      · rw [mkIntSS_length] at hj
        rw [nthL_mkIntSS _ _ _ hj, nthL_mkIntSS _ _ _ (by omega), run_length, run_length]
        exact HA.out i j hij hj
      · rw [mkIntSS_length] at hi
        rw [nthL_mkIntSS _ _ _ hi, run_length, mkIntSS_length]
        exact HO.out i hi

set_option maxHeartbeats 1000000 in
/-- the numbers that mark left are found -/
theorem heldIntSS_yes (v : Value) (xss : List (List Int)) (k : Int) (lo hi : Nat) (w : World) (h : IntSS w lo hi v (mkIntSS k xss)) (hhi : hi ≤ w.heap.size) (hk0 : 0 ≤ k) (hk1 : k ≤ 1099511627776) (hn : cntSS xss ≤ 1099511627776) :
    Calls Tryz.prog 13 #[v, .int .i64 k] w fun e w' => e = .returned (.int .i64 (k + cntSS xss)) ∧ Below w.heap.size w w' := by
  obtain ⟨A, c, rfl, hc1, hc2, hcell⟩ := h.form
  rw [mkIntSS_length] at *
  unfold maxLen at hc2
  go_enter Tryz.func13, Tryz.ntmps13
  go_wp2
  go_loopw [5, 1] (fun i kv wr => ∃ m : Nat, m ≤ xss.length ∧ i = .int .i64 m ∧ kv = .int .i64 (k + sumL xss m) ∧ Below w.heap.size w wr) (fun i _ _ => xss.length - (intOf i).toNat)
  case atStart => exact ⟨0, Nat.zero_le _, rfl, by rw [sumL_zero]; simp, Below.refl _ _⟩
  case round =>
    obtain ⟨m, hm, rfl, rfl, hb⟩ := hrel
    have hmo := sumL_mono xss m hm
    have hcs : sumL xss xss.length ≤ 1099511627776 := hn
    have hs0 := hb.size
    by_cases hlt : m < xss.length
    · obtain ⟨b, off, rfl, hb1, hb2, hcs2⟩ := hcell (by omega)
      obtain ⟨u, x1, r1⟩ := hcs2 m hlt
      rw [nthL_mkIntSS _ _ _ hlt] at r1
      have p1 := (hb.cell (p := ⟨b, off + m, none⟩) (by show b < _; omega)).trans x1
      have R1 := Lib.hid (r1.below hb (by omega))
      have HSU := Lib.hid (sumL_succ xss m hlt)
      have hmo2 := sumL_mono xss (m + 1) (by omega)
      have hlen : (nthL xss m).length ≤ 1099511627776 := by have := HSU.out; omega
      obtain ⟨A2, c2, rfl, hd1, hd2, _⟩ := r1.form
      clear hcs2 x1 r1 hcell
      have hrl := run_length (k + sumL xss m) (nthL xss m).length
      have HRL := Lib.hid hrl
      clear hrl
      go_wp2_with fail
      refine (heldIntS_yes _ (nthL xss m) _ lo hi _ R1.out (by omega) (by omega) (by omega)).mono ?_
      rintro e w1 ⟨rfl, hbq⟩
      go_wp2_with fail
      go_roundw
      case rel => exact ⟨m + 1, by omega, by go_num, by rw [HSU.out]; go_num, hb.trans (hbq.mono hs0)⟩
      case measure => simp [intOf]; omega
    · obtain rfl : m = xss.length := by omega
      go_wp2
      go_ret
      exact ⟨rfl, hb⟩

end Go.Proofs.YtpanigomfmfknaaGreat
