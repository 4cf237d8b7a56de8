/-
  Contracts of the laws' helpers on slices of pairs.
-/
import Derived.Test.YtmdlginjblnfoaaRows
import Derived.Test.YtmdlginjblnfoaaInts
import Derived.Test.YtmdlginjblnfoaaSS
import Derived.Deep.RegionWith

namespace Go.Proofs.Ytmdlginjblnfoaa
open Go.ChangeShapes Go.WideShapes Go.ChangeAt Go.RowKit
set_option linter.unusedVariables false

theorem below_a1 (w : World) (o : Obj) : Below w.heap.size w (w.alloc o) := (Below.refl _ _).alloc (Nat.le_refl _) _
theorem below_a2 (w : World) (o o2 : Obj) : Below w.heap.size w ((w.alloc o).alloc o2) := (below_a1 w o).alloc (by simp) _
theorem below_a3 (w : World) (o o2 o3 : Obj) : Below w.heap.size w (((w.alloc o).alloc o2).alloc o3) := (below_a2 w o o2).alloc (by simp; omega) _
/-- how many elements the first k lists have -/
def sumL {α : Type} (xss : List (List α)) (k : Nat) : Nat := ((xss.take k).map List.length).sum
theorem sumL_zero {α : Type} (xss : List (List α)) : sumL xss 0 = 0 := by simp [sumL]
theorem sumL_succ {α : Type} (xss : List (List α)) (k : Nat) (h : k < xss.length) : sumL xss (k + 1) = sumL xss k + (nthL xss k).length := by
  unfold sumL
  rw [List.take_succ_eq_append_getElem h, List.map_append, List.sum_append, nthL_eq h]
  simp
theorem sumL_mono {α : Type} (xss : List (List α)) (k : Nat) (h : k ≤ xss.length) : sumL xss k ≤ sumL xss xss.length := by
  have : ∀ d, k + d ≤ xss.length → sumL xss k ≤ sumL xss (k + d) := by
    intro d
    induction d with
    | zero => intro _; exact Nat.le_refl _
    | succ d ih => intro hd; have := ih (by omega); have := sumL_succ xss (k + d) (by omega); rw [← Nat.add_assoc]; omega
  have := this (xss.length - k) (by omega)
  rwa [show k + (xss.length - k) = xss.length by omega] at this
def cntSS {α : Type} (xss : List (List α)) : Nat := sumL xss xss.length
def szSS {α : Type} (xss : List (List α)) : Nat := xss.length + cntSS xss
theorem len_le_cnt {α : Type} (xss : List (List α)) (k : Nat) (h : k < xss.length) : (nthL xss k).length ≤ cntSS xss := by
  have h1 := sumL_succ xss k h
  have h2 := sumL_mono xss (k + 1) (by omega)
  unfold cntSS; omega

/-- what is left of an allowance -/
def szr (left : Int) (n : Nat) : Int := if (n : Int) ≤ left then left - n else -1

set_option maxHeartbeats 400000 in
theorem szIntS_any (v : Value) (zs : List Int) (left : Int) (lo hi : Nat) (w : World) (h : IntS w lo hi v zs) (h0 : 0 ≤ left) (h1 : left ≤ 1048576) :
    Calls Try.prog 18 #[v, .int .i64 left] w fun e w' => e = .returned (.int .i64 (szr left zs.length)) ∧ w = w' := by
  obtain ⟨A, c, rfl, hc1, hc2, hcell⟩ := h.form
  unfold maxLen at hc2
  by_cases hl : (zs.length : Int) ≤ left
  · have : ¬ left - zs.length < 0 := by omega
    go_enter Try.func18, Try.ntmps18
    go_wp2
    go_ret
    exact ⟨ret_int (by unfold szr; rw [if_pos hl]), rfl⟩
  · have : left - zs.length < 0 := by omega
    go_enter Try.func18, Try.ntmps18
    go_wp2
    go_ret
    exact ⟨ret_int (by unfold szr; rw [if_neg (by omega)]), rfl⟩

set_option maxHeartbeats 400000 in
theorem szEndS_any (v : Value) (zs : List (Int × Int)) (left : Int) (lo hi : Nat) (w : World) (h : EndS w lo hi v zs) (h0 : 0 ≤ left) (h1 : left ≤ 1048576) :
    Calls Try.prog 30 #[v, .int .i64 left] w fun e w' => e = .returned (.int .i64 (szr left zs.length)) ∧ w = w' := by
  obtain ⟨A, c, rfl, hc1, hc2, hcell⟩ := h.form
  unfold maxLen at hc2
  by_cases hl : (zs.length : Int) ≤ left
  · have : ¬ left - zs.length < 0 := by omega
    go_enter Try.func30, Try.ntmps30
    go_wp2
    go_ret
    exact ⟨ret_int (by unfold szr; rw [if_pos hl]), rfl⟩
  · have : left - zs.length < 0 := by omega
    go_enter Try.func30, Try.ntmps30
    go_wp2
    go_ret
    exact ⟨ret_int (by unfold szr; rw [if_neg (by omega)]), rfl⟩

theorem toEnd_any (a b : Int) (w : World) :
    Calls Try.prog 53 #[.agg #[.int .i64 a, .int .i64 b]] w fun e w' => e = .returned (.agg #[.int .i64 a, .int .i64 b]) ∧ Below w.heap.size w w' := by
  go_enter Try.func53, Try.ntmps53
  go_wp2
  exact bodyPost_ret (v := .agg #[.int .i64 a, .int .i64 b]) (by simp [results, Try.results53, go_sem]) rfl ⟨rfl, below_a3 _ _ _ _⟩

theorem eqEnd_any (a b c d : Int) (w : World) :
    Calls Try.prog 65 #[.agg #[.int .i64 a, .int .i64 b], .agg #[.int .i64 c, .int .i64 d]] w fun e w' => e = .returned (.bool (decide ((a, b) = (c, d)))) ∧ Below w.heap.size w w' := by
  by_cases h1 : a = c
  · have h1' : (a != c) = false := by simp [h1]
    have H1 := Lib.hid h1
    clear h1
    by_cases h2 : b = d
    · have h2' : (b != d) = false := by simp [h2]
      have H2 := Lib.hid h2
      clear h2
      go_enter Try.func65, Try.ntmps65
      go_wp2
      go_ret
      exact ⟨ret_bool (by simp [H1.out, H2.out]), ((Below.refl _ _).alloc (Nat.le_refl _) _).alloc (by simp) _⟩
    · have h2' : (b != d) = true := by simp [h2]
      go_enter Try.func65, Try.ntmps65
      go_wp2
      go_ret
      exact ⟨ret_bool (by simp [h2]), ((Below.refl _ _).alloc (Nat.le_refl _) _).alloc (by simp) _⟩
  · have h1' : (a != c) = true := by simp [h1]
    go_enter Try.func65, Try.ntmps65
    go_wp2
    go_ret
    exact ⟨ret_bool (by simp [h1]), ((Below.refl _ _).alloc (Nat.le_refl _) _).alloc (by simp) _⟩

theorem Try.info56 : (Try.prog.info? 56).map (fun i => (i.zero, i.size, i.bytes)) = some (some (.agg #[.int .i64 0, .int .i64 0]), 2, 16) := by kernel_rfl

set_option maxHeartbeats 1000000 in
theorem toEndS_any (v : Value) (zs : List (Int × Int)) (lo hi : Nat) (w : World) (h : EndS w lo hi v zs) (hhi : hi ≤ w.heap.size) (hn : zs.length ≤ 16777216) :
    Calls Try.prog 35 #[v] w fun e w' => ∃ r, e = .returned r ∧ EndS w' w.heap.size w'.heap.size r zs ∧ Below w.heap.size w w' := by
  obtain ⟨A, c, rfl, hc1, hc2, hcell⟩ := h.form
  have hmk := fun W => make_pairs (P := Try.prog) 54 56 Try.underlying54 Try.info56 zs.length (by omega) W
  go_enter Try.func35, Try.ntmps35
  go_wp2
  go_loopw [4] (fun i wr => ∃ k : Nat, k ≤ zs.length ∧ i = .int .i64 k ∧ wr.rowIs w.heap.size 56 (zs.length * 2) (fun j => if j < k * 2 then endCell zs j else .int .i64 0) ∧ Below w.heap.size w wr) (fun i _ => zs.length - (intOf i).toNat)
  case atStart => exact ⟨0, Nat.zero_le _, rfl, (rowIs_pairs w zs.length 56).congr (fun i _ => by simp), (Below.refl _ _).alloc (Nat.le_refl _) _⟩
  case round =>
    obtain ⟨k, hk, rfl, hrow, hb⟩ := hrel
    clear hmk
    by_cases hlt : k < zs.length
    · obtain ⟨b, off, rfl, hb1, hb2, hcs⟩ := hcell (by omega)
      obtain ⟨h1, h2⟩ := hcs k hlt
      have hck := (hb.cell (p := ⟨b, off + k * 2, none⟩) (by show b < _; omega)).trans h1
      have hck' := (hb.cell (p := ⟨b, off + k * 2 + 1, none⟩) (by show b < _; omega)).trans h2
      clear hcs h1 h2 hcell
      go_wp2_with fail
      refine (toEnd_any _ _ _).mono ?_
      rintro e w1 ⟨rfl, hb1'⟩
      have hrow1 : w1.rowIs w.heap.size 56 (zs.length * 2) (fun j => if j < k * 2 then endCell zs j else .int .i64 0) := hrow.of_block (hb1'.block _ hrow.lt)
      have hbw1 := hb.trans (hb1'.mono hb.size)
      have oc := hrow1.cell (i := k * 2) (by omega)
      have oc' := hrow1.cell (i := k * 2 + 1) (by omega)
      have of := hrow1.frozen (k * 2)
      have of' := hrow1.frozen (k * 2 + 1)
      clear hck hck'
      go_wp2_with fail
      go_roundw
      case rel =>
        refine ⟨k + 1, by omega, by go_num, ?_, (hbw1.setCell (by simp) _).setCell (by simp) _⟩
        refine ((hrow1.set (k * 2) (.int .i64 (nthE zs k).1)).set (k * 2 + 1) (.int .i64 (nthE zs k).2)).congr fun j hj => ?_
        by_cases e : j = k * 2 + 1
        · subst e; rw [if_pos rfl, if_pos (by omega), endCell_snd]
        · rw [if_neg e]
          by_cases e2 : j = k * 2
          · subst e2; rw [if_pos rfl, if_pos (by omega), endCell_fst]
          · rw [if_neg e2]
            by_cases e3 : j < k * 2
            · rw [if_pos e3, if_pos (by omega)]
            · rw [if_neg e3, if_neg (by omega)]
      case measure => simp [intOf]; omega
    · obtain rfl : k = zs.length := by omega
      go_wp2
      go_ret
      refine ⟨_, rfl, ?_, hb⟩
      exact (Sl.of_row hrow (Nat.le_refl _) (Nat.le_refl _) (Nat.le_refl _) (by unfold maxLen; omega)).congr fun j hj => by rw [if_pos hj]

theorem eqEnd_same (a b : Int) (w : World) :
    Calls Try.prog 65 #[.agg #[.int .i64 a, .int .i64 b], .agg #[.int .i64 a, .int .i64 b]] w fun e w' => e = .returned (.bool true) ∧ Below w.heap.size w w' :=
  (eqEnd_any a b a b w).mono fun e w' ⟨h1, h2⟩ => ⟨by rw [h1]; simp, h2⟩

set_option maxHeartbeats 1000000 in
theorem eqEndS_same (v1 v2 : Value) (zs : List (Int × Int)) (lo1 hi1 lo2 hi2 : Nat) (w : World) (h1 : EndS w lo1 hi1 v1 zs) (h2 : EndS w lo2 hi2 v2 zs) (hh1 : hi1 ≤ w.heap.size) (hh2 : hi2 ≤ w.heap.size) :
    Calls Try.prog 41 #[v1, v2] w fun e w' => e = .returned (.bool true) ∧ Below w.heap.size w w' := by
  obtain ⟨A, c, rfl, hc1, hc2, hcell⟩ := h1.form
  obtain ⟨A2, c2, rfl, hd1, hd2, hcell2⟩ := h2.form
  unfold maxLen at hc2 hd2
  go_enter Try.func41, Try.ntmps41
  go_wp2
  go_loopw [5] (fun i wr => ∃ k : Nat, k ≤ zs.length ∧ i = .int .i64 k ∧ Below w.heap.size w wr) (fun i _ => zs.length - (intOf i).toNat)
  case atStart => exact ⟨0, Nat.zero_le _, rfl, Below.refl _ _⟩
  case round =>
    obtain ⟨k, hk, rfl, hb⟩ := hrel
    by_cases hlt : k < zs.length
    · obtain ⟨b, off, rfl, hb1, hb2, hcs⟩ := hcell (by omega)
      obtain ⟨b', off', rfl, hb1', hb2', hcs'⟩ := hcell2 (by omega)
      obtain ⟨x1, x2⟩ := hcs k hlt
      obtain ⟨y1, y2⟩ := hcs' k hlt
      have p1 := (hb.cell (p := ⟨b, off + k * 2, none⟩) (by show b < _; omega)).trans x1
      have p2 := (hb.cell (p := ⟨b, off + k * 2 + 1, none⟩) (by show b < _; omega)).trans x2
      have p3 := (hb.cell (p := ⟨b', off' + k * 2, none⟩) (by show b' < _; omega)).trans y1
      have p4 := (hb.cell (p := ⟨b', off' + k * 2 + 1, none⟩) (by show b' < _; omega)).trans y2
      clear hcs hcs' hcell hcell2 x1 x2 y1 y2
      go_wp2
      go_region_with (go_at_call 65; refine (eqEnd_same _ _ _).mono ?_; rintro e w1 ⟨rfl, hbq⟩)
      all_goals (try go_wp2)
      all_goals go_roundw
      case rel => exact ⟨k + 1, by omega, by go_num, hb.drew.trans (hbq.mono hb.size)⟩
      case measure => simp [intOf]; omega
      case rel => exact ⟨k + 1, by omega, by go_num, hb.drew.trans (hbq.mono hb.size)⟩
      case measure => simp [intOf]; omega
    · obtain rfl : k = zs.length := by omega
      go_wp2
      go_ret
      exact ⟨rfl, hb⟩

/-- the pairs of numbers that mark leaves -/
def runE (k : Int) : Nat → List (Int × Int)
  | 0 => []
  | n + 1 => (k, k + 1) :: runE (k + 2) n
theorem runE_length (k : Int) (n : Nat) : (runE k n).length = n := by induction n generalizing k with | zero => rfl | succ n ih => simp [runE, ih]
theorem nthE_runE (k : Int) (n j : Nat) (h : j < n) : nthE (runE k n) j = (k + 2 * j, k + 2 * j + 1) := by
  induction n generalizing k j with
  | zero => omega
  | succ n ih =>
    cases j with
    | zero => simp [runE, nthE_cons_zero]
    | succ j => rw [runE, nthE_cons_succ, ih (k + 2) j (by omega)]; simp only [Prod.mk.injEq]; omega
theorem endCell_run (k : Int) (n j : Nat) (h : j < n * 2) : endCell (runE k n) j = .int .i64 (k + j) := by
  unfold endCell
  rw [nthE_runE _ _ _ (by omega)]
  split
  · congr 1; omega
  · congr 1; omega

set_option maxHeartbeats 1000000 in
theorem markEndS_any (v : Value) (zs : List (Int × Int)) (k : Int) (lo hi : Nat) (w : World) (h : EndS w lo hi v zs) (hhi : hi ≤ w.heap.size) (hk0 : 0 ≤ k) (hk1 : k ≤ 1152921504606846976) (hn : zs.length ≤ 576460752303423488) :
    Calls Try.prog 42 #[v, .int .i64 k] w fun e w' => e = .returned (.int .i64 (k + 2 * zs.length)) ∧ EndS w' lo hi v (runE k zs.length) ∧ w.grownBy w' (rowOf zs.length v) ∧ w'.heap.size = w.heap.size := by
  obtain ⟨A, c, rfl, hc1, hc2, hcell⟩ := h.form
  go_enter Try.func42, Try.ntmps42
  go_wp2
  go_loopw [5, 1] (fun i kv wr => ∃ m : Nat, m ≤ zs.length ∧ i = .int .i64 m ∧ kv = .int .i64 (k + 2 * m) ∧ Sl wr lo hi 2 (.slice A zs.length c) zs.length (fun j => if j < m * 2 then .int .i64 (k + j) else endCell zs j) ∧ w.grownBy wr (rowOf zs.length (.slice A zs.length c)) ∧ Hid (wr.heap.size = w.heap.size)) (fun i _ _ => zs.length - (intOf i).toNat)
  case atStart => exact ⟨0, Nat.zero_le _, rfl, by simp, Sl.congr h fun j _ => by simp, World.grownBy.refl _ _, Lib.hid rfl⟩
  case round =>
    obtain ⟨m, hm, rfl, rfl, hs, ht, HS⟩ := hrel
    by_cases hlt : m < zs.length
    · obtain ⟨b, off, rfl, hb1, hb2, hcs⟩ := hcell (by omega)
      obtain ⟨hck, hfk⟩ := hs.at_ (j := m * 2) (by omega)
      obtain ⟨hck', hfk'⟩ := hs.at_ (j := m * 2 + 1) (by omega)
      rw [← Nat.add_assoc] at hck' hfk'
      rw [rowOf_some (by omega)] at ht
      clear hcs hcell
      have hcx : (wr.setCell ⟨b, off + m * 2, none⟩ (.int .i64 (k + 2 * m))).cell? ⟨b, off + m * 2 + 1, none⟩ = some (if m * 2 + 1 < m * 2 then .int .i64 (k + ((m * 2 + 1 : Nat) : Int)) else endCell zs (m * 2 + 1)) := by
        rw [World.cell?_setCell_other _ _ _ _ (by intro e; injection e with _ e _; omega)]; exact hck'
      go_wp2
      go_roundw
      case rel =>
        refine ⟨m + 1, by omega, by go_num, by go_num, ?_, by rw [rowOf_some (by omega)]; exact grownBy_setCell (grownBy_setCell ht rfl _) rfl _, Lib.hid (by simpa [World.setCell] using HS.out)⟩
        have h2 := (hs.set (j := m * 2) (by omega) (.int .i64 (k + 2 * m))).set (j := m * 2 + 1) (by omega) (.int .i64 (k + 2 * m + 1))
        rw [← Nat.add_assoc] at h2
        refine h2.congr fun j hj => ?_
        by_cases e : j = m * 2 + 1
        · subst e; rw [if_pos rfl, if_pos (by omega)]; congr 1; omega
        · rw [if_neg e]
          by_cases e1 : j = m * 2
          · subst e1; rw [if_pos rfl, if_pos (by omega)]; congr 1; omega
          · rw [if_neg e1]
            by_cases e2 : j < m * 2
            · rw [if_pos e2, if_pos (by omega)]
            · rw [if_neg e2, if_neg (by omega)]
      case measure => simp [intOf]; omega
    · obtain rfl : m = zs.length := by omega
      go_wp2
      go_ret
      refine ⟨rfl, ?_, ht, HS.out⟩
      unfold EndS
      rw [runE_length]
      exact hs.congr fun j hj => by rw [if_pos hj, endCell_run _ _ _ hj]

theorem Try.info54 : (Try.prog.info? 54).map (fun i => (i.zero, i.size, i.bytes)) = some (some (.slice none 0 0), 1, 24) := by kernel_rfl

set_option maxHeartbeats 1000000 in
theorem szEndSS_any (v : Value) (xss : List (List (Int × Int))) (left : Int) (lo hi : Nat) (w : World) (h : EndSS w lo hi v xss) (h0 : 0 ≤ left) (h1 : left ≤ 1048576) :
    Calls Try.prog 17 #[v, .int .i64 left] w fun e w' => e = .returned (.int .i64 (szr left (szSS xss))) ∧ w = w' := by
  obtain ⟨A, c, rfl, hc1, hc2, hcell⟩ := h.form
  unfold maxLen at hc2
  have hz : szSS xss = xss.length + sumL xss xss.length := rfl
  have HZ := Lib.hid hz
  clear hz
  by_cases hl : (xss.length : Int) ≤ left
  · have : ¬ left - xss.length < 0 := by omega
    go_enter Try.func17, Try.ntmps17
    go_wp2
    go_loop [5, 1] (fun i l => ∃ m : Nat, m ≤ xss.length ∧ i = .int .i64 m ∧ l = .int .i64 (left - xss.length - sumL xss m) ∧ 0 ≤ left - xss.length - sumL xss m) (fun i _ => xss.length - (intOf i).toNat)
    case atStart => exact ⟨0, Nat.zero_le _, rfl, by rw [sumL_zero]; simp, by rw [sumL_zero]; omega⟩
    case round =>
      obtain ⟨m, hm, rfl, rfl, hge⟩ := hrel
      by_cases hlt : m < xss.length
      · obtain ⟨b, off, rfl, hb1, hb2, hcs⟩ := hcell (by omega)
        obtain ⟨u, hcu, hR⟩ := hcs m hlt
        have HS := Lib.hid (sumL_succ xss m hlt)
        have hmo := sumL_mono xss (m + 1) (by omega)
        have HR := Lib.hid hR
        obtain ⟨A2, c2, rfl, hd1, hd2, _⟩ := hR.form
        clear hcs hcell hR
        by_cases hf : ((nthL xss m).length : Int) ≤ left - xss.length - sumL xss m
        · have e1 : szr (left - xss.length - sumL xss m) (nthL xss m).length = left - xss.length - sumL xss m - (nthL xss m).length := by unfold szr; rw [if_pos hf]
          have hnn : ¬ left - xss.length - sumL xss m - (nthL xss m).length < 0 := by omega
          have E1 := Lib.hid e1
          clear e1
          go_wp2_with (go_at_call 30; refine (szEndS_any _ (nthL xss m) _ lo hi _ HR.out (by omega) (by omega)).mono ?_; rintro e w' ⟨rfl, rfl⟩; rw [E1.out])
          go_round
          case rel =>
            have := HS.out
            exact ⟨m + 1, by omega, by go_num, by rw [this]; congr 1; omega, by rw [this]; omega⟩
          case measure => simp [intOf]; omega
        · have e1 : szr (left - xss.length - sumL xss m) (nthL xss m).length = -1 := by unfold szr; rw [if_neg hf]
          have E1 := Lib.hid e1
          clear e1
          go_wp2_with (go_at_call 30; refine (szEndS_any _ (nthL xss m) _ lo hi _ HR.out (by omega) (by omega)).mono ?_; rintro e w' ⟨rfl, rfl⟩; rw [E1.out])
          go_ret
          have h3 := HS.out
          have h4 := HZ.out
          exact ⟨ret_int (by unfold szr; rw [if_neg (by omega)]), rfl⟩
      · obtain rfl : m = xss.length := by omega
        go_wp2
        go_ret
        have h4 := HZ.out
        exact ⟨ret_int (by unfold szr; rw [if_pos (by omega)]; omega), rfl⟩
  · have : left - xss.length < 0 := by omega
    go_enter Try.func17, Try.ntmps17
    go_wp2
    go_ret
    have h4 := HZ.out
    exact ⟨ret_int (by unfold szr; rw [if_neg (by omega)]), rfl⟩

set_option maxHeartbeats 1000000 in
theorem toEndSS_any (v : Value) (xss : List (List (Int × Int))) (lo hi : Nat) (w : World) (h : EndSS w lo hi v xss) (hhi : hi ≤ w.heap.size) (hn : szSS xss ≤ 1048576) :
    Calls Try.prog 21 #[v] w fun e w' => ∃ r, e = .returned r ∧ EndSSx w' w.heap.size w'.heap.size r xss ∧ Below w.heap.size w w' := by
  obtain ⟨A, c, rfl, hc1, hc2, hcell⟩ := h.form
  have hln : xss.length ≤ 1048576 := by unfold szSS at hn; omega
  have hmk := fun W => run_make_row' (P := Try.prog) 29 54 (.slice none 0 0) 24 Try.underlying29 Try.info54 rfl .i64 .i64 xss.length (by omega) (by omega) W
  go_enter Try.func21, Try.ntmps21
  go_wp2
  go_loopw [4] (fun i wr => ∃ (k : Nat) (vs : Nat → Value), k ≤ xss.length ∧ i = .int .i64 k ∧ wr.rowIs w.heap.size 54 xss.length (fun j => if j < k then vs j else .slice none 0 0) ∧ (∀ j, j < k → EndS wr (w.heap.size + 1) wr.heap.size (vs j) (nthL xss j)) ∧
      (∀ i j, i < j → j < k → rowOf (nthL xss i).length (vs i) = none ∨ rowOf (nthL xss i).length (vs i) ≠ rowOf (nthL xss j).length (vs j)) ∧ Below w.heap.size w wr) (fun i _ => xss.length - (intOf i).toNat)
  case atStart => exact ⟨0, fun _ => undef, Nat.zero_le _, rfl, (World.rowIs_made w (.slice none 0 0) xss.length 54).congr (fun i _ => by simp), fun j hj => absurd hj (by omega), fun i j _ hj => absurd hj (by omega), (Below.refl _ _).alloc (Nat.le_refl _) _⟩
  case round =>
    obtain ⟨k, vs, hk, rfl, hrow, hvs, hap, hb⟩ := hrel
    clear hmk
    have HV := Lib.hid hvs
    have HA := Lib.hid hap
    clear hvs hap
    by_cases hlt : k < xss.length
    · obtain ⟨b, off, rfl, hb1, hb2, hcs⟩ := hcell (by omega)
      obtain ⟨u, hcu, hR⟩ := hcs k hlt
      have hck := (hb.cell (p := ⟨b, off + k, none⟩) (by show b < _; omega)).trans hcu
      have hRw : EndS wr lo hi u (nthL xss k) := hR.below hb (by omega)
      have HR := Lib.hid hRw
      have hlk := len_le_cnt xss k hlt
      have hlk2 : (nthL xss k).length ≤ 16777216 := by unfold szSS at hn; omega
      obtain ⟨A2, c2, rfl, hd1, hd2, _⟩ := hR.form
      clear hcs hcell hR hcu hRw
      have hs0 := hb.size
      go_wp2_with fail
      refine (toEndS_any _ (nthL xss k) lo hi _ HR.out (by omega) hlk2).mono ?_
      rintro e w1 ⟨r, rfl, hr, hbq⟩
      have hs1 := hbq.size
      have hrow1 : w1.rowIs w.heap.size 54 xss.length (fun j => if j < k then vs j else .slice none 0 0) := hrow.of_block (hbq.block _ hrow.lt)
      have hbw1 := hb.trans (hbq.mono hb.size)
      have oc := hrow1.cell (i := k) hlt
      have of := hrow1.frozen k
      have RR := Lib.hid hr
      obtain ⟨Ar, cr, rfl, hr1, hr2, _⟩ := hr.form
      have hlt0 := hrow.lt
      clear hck hr
      go_wp2_with fail
      go_roundw
      case rel =>
        refine ⟨k + 1, fun j => if j = k then .slice Ar (nthL xss k).length cr else vs j, by omega, by go_num, ?_, ?_, ?_, hbw1.setCell (by simp) _⟩
        · refine (hrow1.set k _).congr fun j hj => ?_
          dsimp only
          by_cases e : j = k
          · subst e; rw [if_pos rfl, if_pos (by omega), if_pos rfl]
          · rw [if_neg e]
            by_cases e2 : j < k
            · rw [if_pos e2, if_pos (by omega), if_neg e]
            · rw [if_neg e2, if_neg (by omega)]
        · intro j hj
          show EndS _ _ _ (if j = k then .slice Ar (nthL xss k).length cr else vs j) _
          have hkeep : ∀ q, w.heap.size + 1 ≤ q → (w1.setCell ⟨w.heap.size, k, none⟩ (.slice Ar (nthL xss k).length cr)).heap[q]? = w1.heap[q]? := fun q hq => Below.heap_setCell _ _ _ _ (by show q ≠ w.heap.size; omega)
          by_cases e : j = k
          · subst e
            rw [if_pos rfl]
            exact (RR.out.mono (by omega) (by simp [World.setCell])).keep fun q hq _ => hkeep q (by omega)
          · rw [if_neg e]
            exact (((HV.out j (by omega)).below hbq (Nat.le_refl _)).mono (Nat.le_refl _) (by simpa [World.setCell] using hs1)).keep fun q hq _ => hkeep q hq
        · intro i j hij hj
          show rowOf _ (if i = k then .slice Ar (nthL xss k).length cr else vs i) = none ∨ rowOf _ (if i = k then .slice Ar (nthL xss k).length cr else vs i) ≠ rowOf _ (if j = k then .slice Ar (nthL xss k).length cr else vs j)
          rw [if_neg (by omega)]
          by_cases e : j = k
          · subst e
            rw [if_pos rfl]
            rcases Sl.row (HV.out i (by omega)) with e1 | ⟨b1, e1, _, e3⟩
            · exact .inl e1
            · right
              rw [e1]
              rcases Sl.row RR.out with e4 | ⟨b2, e4, e5, _⟩
              · rw [e4]; simp
              · rw [e4]; intro e6; injection e6; omega
          · rw [if_neg e]
            exact HA.out i j hij (by omega)
      case measure => simp [intOf]; omega
    · obtain rfl : k = xss.length := by omega
      go_wp2
      go_ret
      refine ⟨.slice (some ⟨w.heap.size, 0, none⟩) xss.length xss.length, rfl, ⟨vs, ?_, fun i hi => (HV.out i hi).mono (by omega) (Nat.le_refl _), HA.out, fun i hi => ?_⟩, hb⟩
      · exact (Sl.of_row hrow (Nat.le_refl _) (by omega) (Nat.le_refl _) (by unfold maxLen; omega)).congr fun j hj => by rw [if_pos (by omega)]
      · rcases Sl.row (HV.out i hi) with e1 | ⟨b1, e1, e2, e3⟩
        · exact .inl e1
        · right
          rw [e1, rowOf_some (by omega)]
          intro e6; injection e6; omega

set_option maxHeartbeats 1000000 in
theorem eqEndSS_same (v1 v2 : Value) (xss : List (List (Int × Int))) (lo1 hi1 lo2 hi2 : Nat) (w : World) (h1 : EndSS w lo1 hi1 v1 xss) (h2 : EndSS w lo2 hi2 v2 xss) (hh1 : hi1 ≤ w.heap.size) (hh2 : hi2 ≤ w.heap.size) :
    Calls Try.prog 25 #[v1, v2] w fun e w' => e = .returned (.bool true) ∧ Below w.heap.size w w' := by
  obtain ⟨A, c, rfl, hc1, hc2, hcell⟩ := h1.form
  obtain ⟨A2, c2, rfl, hd1, hd2, hcell2⟩ := h2.form
  unfold maxLen at hc2 hd2
  go_enter Try.func25, Try.ntmps25
  go_wp2
  go_loopw [5] (fun i wr => ∃ k : Nat, k ≤ xss.length ∧ i = .int .i64 k ∧ Below w.heap.size w wr) (fun i _ => xss.length - (intOf i).toNat)
  case atStart => exact ⟨0, Nat.zero_le _, rfl, Below.refl _ _⟩
  case round =>
    obtain ⟨k, hk, rfl, hb⟩ := hrel
    have hs0 := hb.size
    by_cases hlt : k < xss.length
    · obtain ⟨b, off, rfl, hb1, hb2, hcs⟩ := hcell (by omega)
      obtain ⟨b', off', rfl, hb1', hb2', hcs'⟩ := hcell2 (by omega)
      obtain ⟨u1, x1, r1⟩ := hcs k hlt
      obtain ⟨u2, x2, r2⟩ := hcs' k hlt
      have p1 := (hb.cell (p := ⟨b, off + k, none⟩) (by show b < _; omega)).trans x1
      have p2 := (hb.cell (p := ⟨b', off' + k, none⟩) (by show b' < _; omega)).trans x2
      have R1 := Lib.hid (r1.below hb (by omega))
      have R2 := Lib.hid (r2.below hb (by omega))
      obtain ⟨B1, e1, rfl, _, _, _⟩ := r1.form
      obtain ⟨B2, e2, rfl, _, _, _⟩ := r2.form
      clear hcs hcs' hcell hcell2 x1 x2 r1 r2
      have q1 : hi1 ≤ wr.heap.size := by omega
      have q2 : hi2 ≤ wr.heap.size := by omega
      go_wp2
      go_region_with (go_at_call 41; refine (eqEndS_same _ _ (nthL xss k) lo1 hi1 lo2 hi2 _ (by exact R1.out) (by exact R2.out) (by exact q1) (by exact q2)).mono ?_; rintro e w1 ⟨rfl, hbq⟩)
      all_goals (try go_wp2)
      all_goals go_roundw
      case rel => exact ⟨k + 1, by omega, by go_num, hb.drew.trans (hbq.mono hb.size)⟩
      case measure => simp [intOf]; omega
      case rel => exact ⟨k + 1, by omega, by go_num, hb.drew.trans (hbq.mono hb.size)⟩
      case measure => simp [intOf]; omega
    · obtain rfl : k = xss.length := by omega
      go_wp2
      go_ret
      exact ⟨rfl, hb⟩

/-- what mark leaves in a slice of slices -/
def mkEndSS (k : Int) (xss : List (List (Int × Int))) : List (List (Int × Int)) := (List.range xss.length).map fun i => runE (k + 2 * sumL xss i) (nthL xss i).length
theorem mkEndSS_length (k : Int) (xss : List (List (Int × Int))) : (mkEndSS k xss).length = xss.length := by simp [mkEndSS]
theorem nthL_mkEndSS (k : Int) (xss : List (List (Int × Int))) (i : Nat) (h : i < xss.length) : nthL (mkEndSS k xss) i = runE (k + 2 * sumL xss i) (nthL xss i).length := by
  rw [nthL_eq (by rw [mkEndSS_length]; exact h)]
  simp [mkEndSS]

set_option maxHeartbeats 2000000 in
theorem markEndSS_any (v : Value) (xss : List (List (Int × Int))) (k : Int) (lo hi : Nat) (w : World) (h : EndSSx w lo hi v xss) (hhi : hi ≤ w.heap.size) (hk0 : 0 ≤ k) (hk1 : k ≤ 1099511627776) (hn : cntSS xss ≤ 1099511627776) :
    Calls Try.prog 26 #[v, .int .i64 k] w fun e w' => e = .returned (.int .i64 (k + 2 * cntSS xss)) ∧ EndSSx w' lo hi v (mkEndSS k xss) ∧ Turned lo hi w w' := by
  obtain ⟨A, c, rfl, hc1, hc2, hcell⟩ := h.ss.form
  obtain ⟨vs, hsl, hvs, hap, hao⟩ := h
  unfold maxLen at hc2
  have HV := Lib.hid hvs
  have HA := Lib.hid hap
  have HO := Lib.hid hao
  clear hvs hap hao
  go_enter Try.func26, Try.ntmps26
  go_wp2
  go_loopw [5, 1] (fun i kv wr => ∃ m : Nat, m ≤ xss.length ∧ i = .int .i64 m ∧ kv = .int .i64 (k + 2 * sumL xss m) ∧ Sl wr lo hi 1 (.slice A xss.length c) xss.length vs ∧
      (∀ j, j < m → EndS wr lo hi (vs j) (runE (k + 2 * sumL xss j) (nthL xss j).length)) ∧ (∀ j, m ≤ j → j < xss.length → EndS wr lo hi (vs j) (nthL xss j)) ∧ Turned lo hi w wr ∧ Hid (wr.heap.size = w.heap.size)) (fun i _ _ => xss.length - (intOf i).toNat)
  case atStart => exact ⟨0, Nat.zero_le _, rfl, by rw [sumL_zero]; simp, hsl, fun j hj => absurd hj (by omega), fun j _ hj => HV.out j hj, Turned.refl _ _ _, Lib.hid rfl⟩
  case round =>
    obtain ⟨m, hm, rfl, rfl, hs, hl, hr, ht, HS⟩ := hrel
    have HL := Lib.hid hl
    have HR := Lib.hid hr
    clear hl hr
    have hmo := sumL_mono xss m hm
    have hcs : sumL xss xss.length ≤ 1099511627776 := hn
    have hsz : w.heap.size ≤ wr.heap.size := ht.size
    by_cases hlt : m < xss.length
    · obtain ⟨b, off, rfl, hb1, hb2, _⟩ := hcell (by omega)
      obtain ⟨hck, hfk⟩ := hs.at_ (j := m) (by omega)
      have hu := HR.out m (Nat.le_refl _) hlt
      have HU := Lib.hid hu
      have HSU := Lib.hid (sumL_succ xss m hlt)
      have hmo2 := sumL_mono xss (m + 1) (by omega)
      have hlen : (nthL xss m).length ≤ 1099511627776 := by have := HSU.out; omega
      obtain ⟨A2, c2, e2, hd1, hd2, _⟩ := hu.form
      rw [e2] at hck
      rw [e2] at HU
      have E2 := Lib.hid e2
      clear hu e2 hcell hfk
      go_wp2_with fail
      refine (markEndS_any _ (nthL xss m) _ lo hi _ HU.out (by omega) (by omega) (by omega) (by omega)).mono ?_
      rintro e w1 ⟨rfl, hr1, hg1, hz1⟩
      have HR1 := Lib.hid hr1
      have HZ1 := Lib.hid hz1
      clear hr1 hz1
      go_wp2_with fail
      go_roundw
      case rel =>
        have hT : Turned lo hi wr w1 := Turned.of_row (HU.out) hg1
        refine ⟨m + 1, by omega, by go_num, by rw [HSU.out]; go_num, ?_, ?_, ?_, ht.trans hT, Lib.hid (by rw [HZ1.out]; exact HS.out)⟩
        · refine hs.grown hg1 (by omega) ?_
          have := HO.out m hlt
          rw [E2.out] at this
          rcases this with e | e
          · right; rw [e, rowOf_some (by omega)]; simp
          · exact .inr fun e3 => e e3.symm
        · intro j hj
          by_cases e : j = m
          · subst e; rw [E2.out]; exact HR1.out
          · refine Sl.grown (HL.out j (by omega)) hg1 (by omega) ?_
            rw [runE_length]
            have := HA.out j m (by omega) hlt
            rw [E2.out] at this
            exact this
        · intro j hj hjl
          refine Sl.grown (HR.out j (by omega) hjl) hg1 (by omega) ?_
          have := HA.out m j (by omega) hjl
          rw [E2.out] at this
          rcases this with e | e
          · cases hq : rowOf (nthL xss j).length (vs j) with
            | none => exact .inl rfl
            | some q => right; rw [e]; simp
          · exact .inr fun e3 => e e3.symm
      case measure => simp [intOf]; omega
    · obtain rfl : m = xss.length := by omega
      go_wp2
      go_ret
      refine ⟨rfl, ⟨vs, ?_, fun i hi => ?_, fun i j hij hj => ?_, fun i hi => ?_⟩, ht⟩
      · rw [mkEndSS_length]; exact hs
      · rw [mkEndSS_length] at hi
        rw [nthL_mkEndSS _ _ _ hi]
        exact HL.out i hi
      · rw [mkEndSS_length] at hj
        rw [nthL_mkEndSS _ _ _ hj, nthL_mkEndSS _ _ _ (by omega), runE_length, runE_length]
        exact HA.out i j hij hj
      · rw [mkEndSS_length] at hi
        rw [nthL_mkEndSS _ _ _ hi, runE_length, mkEndSS_length]
        exact HO.out i hi

end Go.Proofs.Ytmdlginjblnfoaa
